/- Whether two disks are the same: the contracts of slices.Equal and slices.EqualFunc at this program's types, of the literal in Same. -/
import Derived.Test.YtmajfiljajbipaaDsk8
import Derived.Test.YtmajfiljajbipaaPlan
import Derived.Test.YtmajfiljajbipaaRef6
set_option linter.unusedVariables false
set_option linter.unusedSimpArgs false
namespace Go.Proofs.Ytmajfiljajbipaa
open Go.RowKit

def eqb (l k : List UInt8) : Bool := decide (l = k)
theorem take_ext {α : Type} {l m : List α} {k : Nat} (h : l.take k = m.take k) (hl : k < l.length) (hm : k < m.length) (e : l[k] = m[k]) : l.take (k + 1) = m.take (k + 1) := by
  rw [List.take_succ_eq_append_getElem hl, List.take_succ_eq_append_getElem hm, h, e]

set_option maxRecDepth 100000 in
set_option maxHeartbeats 1000000 in
theorem equalB {ok1 ok2 : Nat → Prop} (w : World) (A : Option Addr) (n c : Nat) (l : List UInt8) (B : Option Addr) (m bc : Nat) (k : List UInt8) (h1 : By w ok1 A n c l) (h2 : By w ok2 B m bc k) (hn : n ≤ 1048576) (hm : m ≤ 1048576) :
    Calls Try.prog 51 #[.slice A n c, .slice B m bc] w fun e w' => e = .returned (.bool (eqb l k)) ∧ Below w.heap.size w w' := by
  have hl1 : l.length = n := by have := h1.1; simpa [bv] using this
  have hl2 : k.length = m := by have := h2.1; simpa [bv] using this
  by_cases hnm : n = m
  · subst hnm
    have HL1 := Lib.hid hl1; clear hl1
    have HL2 := Lib.hid hl2; clear hl2
    go_enter Try.func51, Try.ntmps51
    go_wp2
    go_loopw [13, 5] (fun i _ wr => ∃ j : Nat, j ≤ n ∧ i = .int .i64 j ∧ l.take j = k.take j ∧ Below w.heap.size w wr) (fun i _ _ => n - (intOf i).toNat)
    case atStart => exact ⟨0, Nat.zero_le _, rfl, rfl, Below.refl _ _⟩
    case round =>
      obtain ⟨j, hj, rfl, hEq, hb⟩ := hrel
      have HE := Lib.hid hEq; clear hEq
      by_cases hlt : j < n
      · have hlt' : (j : Int) < n := by omega
        obtain ⟨a, rfl, _, ha, hca⟩ := h1.at_ (j := j) (by omega)
        obtain ⟨b, rfl, _, hb', hcb⟩ := h2.at_ (j := j) (by omega)
        have hjl : j < l.length := by rw [HL1.out]; exact hlt
        have hjk : j < k.length := by rw [HL2.out]; exact hlt
        have q0 := hca j (.int .u8 (l[j].toNat : Int)) (by simp [bv, hjl])
        have q1 := hcb j (.int .u8 (k[j].toNat : Int)) (by simp [bv, hjk])
        obtain ⟨x, hx⟩ : ∃ x, x = l[j] := ⟨_, rfl⟩
        obtain ⟨y, hy⟩ : ∃ y, y = k[j] := ⟨_, rfl⟩
        rw [← hx] at q0
        rw [← hy] at q1
        have HX := Lib.hid hx; clear hx
        have HY := Lib.hid hy; clear hy
        have ha' : (a.add j).block < w.heap.size := by rw [add_block]; exact ha
        have hb'' : (b.add j).block < w.heap.size := by rw [add_block]; exact hb'
        have hdr : Below w.heap.size w wr.drew := hb.drew
        by_cases hxy : x = y
        · have hne : ((x.toNat : Int) != (y.toNat : Int)) = false := by simp [hxy]
          have HXY := Lib.hid hxy; clear hxy
          go_wp2_with fail
          refine wp_region_noPanic ?_
          refine plan (.rd 0 (.rd 1 (.rd 2 (.rd 3 (.rd 4 (.rd 5 (.rd 6 (.rd 7 (.rd 8 .done))))))))) [0, 1, 2, 3, 4, 5, 6, 7, 8] (fun W => Below w.heap.size w W) (by kernel_rfl) (by kernel_rfl) (fun _ _ _ _ _ h => h) hdr ?_
          repeat (refine pl_pure rfl (fun K hK => ?_); go_simp; refine hK _ ?_; clear hK K)
          refine pl_rd (.int .u8 (x.toNat : Int)) rfl rfl (fun W hS => ?_) (fun K hK => ?_)
          · have f0 := (hS.cell (p := a.add j) ha').trans q0
            simp [go_sem, f0]
          go_simp
          refine hK _ ?_
          clear hK K
          repeat (refine pl_pure rfl (fun K hK => ?_); go_simp; refine hK _ ?_; clear hK K)
          refine pl_rd (.int .u8 (y.toNat : Int)) rfl rfl (fun W hS => ?_) (fun K hK => ?_)
          · have f0 := (hS.cell (p := b.add j) hb'').trans q1
            simp [go_sem, f0]
          go_simp
          refine hK _ ?_
          clear hK K
          repeat (refine pl_pure rfl (fun K hK => ?_); go_simp; refine hK _ ?_; clear hK K)
          refine pl_done ?_
          refine NoPanic.normal ?_
          go_wp2
          exact ⟨⟨j + 1, hlt, by simp, take_ext HE.out hjl hjk (by rw [← HX.out, ← HY.out, HXY.out]), hdr⟩, by simp [intOf]; omega⟩
        · have hne : ((x.toNat : Int) != (y.toNat : Int)) = true := by
            simp only [bne_iff_ne, ne_eq]
            intro h
            exact hxy (UInt8.toNat_inj.1 (by omega))
          have hf : eqb l k = false := by
            simp only [eqb, decide_eq_false_iff_not]
            intro h
            subst h
            exact hxy (by rw [HX.out, HY.out])
          have HF := Lib.hid hf; clear hf
          clear hxy
          go_wp2_with fail
          refine wp_region_noPanic ?_
          refine plan (.rd 0 (.rd 1 (.rd 2 (.rd 3 (.rd 4 (.rd 5 (.rd 6 (.rd 7 (.rd 8 .done))))))))) [0, 1, 2, 3, 4, 5, 6, 7, 8] (fun W => Below w.heap.size w W) (by kernel_rfl) (by kernel_rfl) (fun _ _ _ _ _ h => h) hdr ?_
          repeat (refine pl_pure rfl (fun K hK => ?_); go_simp; refine hK _ ?_; clear hK K)
          refine pl_rd (.int .u8 (x.toNat : Int)) rfl rfl (fun W hS => ?_) (fun K hK => ?_)
          · have f0 := (hS.cell (p := a.add j) ha').trans q0
            simp [go_sem, f0]
          go_simp
          refine hK _ ?_
          clear hK K
          repeat (refine pl_pure rfl (fun K hK => ?_); go_simp; refine hK _ ?_; clear hK K)
          refine pl_rd (.int .u8 (y.toNat : Int)) rfl rfl (fun W hS => ?_) (fun K hK => ?_)
          · have f0 := (hS.cell (p := b.add j) hb'').trans q1
            simp [go_sem, f0]
          go_simp
          refine hK _ ?_
          clear hK K
          repeat (refine pl_pure rfl (fun K hK => ?_); go_simp; refine hK _ ?_; clear hK K)
          refine pl_done ?_
          refine NoPanic.normal ?_
          go_wp2
          go_ret
          exact ⟨by rw [HF.out]; rfl, hdr⟩
      · have hlt' : ¬ (j : Int) < n := by omega
        obtain rfl : j = n := by omega
        have ht : eqb l k = true := by
          have h := HE.out
          rw [List.take_of_length_le (by rw [HL1.out]; exact Nat.le_refl _), List.take_of_length_le (by rw [HL2.out]; exact Nat.le_refl _)] at h
          simp [eqb, h]
        have HT := Lib.hid ht; clear ht
        go_wp2
        go_ret
        exact ⟨by rw [HT.out]; rfl, hb⟩
  · have hne : ((n : Int) != (m : Int)) = true := by simp; omega
    have hf : eqb l k = false := by
      simp only [eqb, decide_eq_false_iff_not]
      intro h
      subst h
      exact hnm (by rw [← hl1, ← hl2])
    have HF := Lib.hid hf; clear hf hl1 hl2 hnm
    go_enter Try.func51, Try.ntmps51
    go_wp2
    go_ret
    exact ⟨by rw [HF.out]; rfl, Below.refl _ _⟩

def wreqb (x y : Nat × List UInt8) : Bool := decide (x = y)
theorem wreqb_at {x y : Nat × List UInt8} (h : x.1 ≠ y.1) : wreqb x y = false := by
  simp only [wreqb, decide_eq_false_iff_not]
  intro e
  exact h (by rw [e])
theorem wreqb_b {x y : Nat × List UInt8} (h : x.1 = y.1) : wreqb x y = eqb x.2 y.2 := by
  obtain ⟨a, l⟩ := x
  obtain ⟨b, m⟩ := y
  simp only at h
  subst h
  simp [wreqb, eqb]

set_option maxRecDepth 100000 in
theorem same1 {ok1 ok2 : Nat → Prop} (w : World) (x y : Nat × List UInt8) (A : Option Addr) (c : Nat) (B : Option Addr) (bc : Nat) (h1 : By w ok1 A x.2.length c x.2) (h2 : By w ok2 B y.2.length bc y.2) (hn : x.2.length ≤ 1048576) (hm : y.2.length ≤ 1048576) :
    Calls Try.prog 50 #[.agg #[.int .i64 (x.1 : Int), .slice A x.2.length c], .agg #[.int .i64 (y.1 : Int), .slice B y.2.length bc]] w fun e w' => e = .returned (.bool (wreqb x y)) ∧ Below w.heap.size w w' := by
  have hb0 : Below w.heap.size w ((w.alloc (.cells #[.int .i64 (x.1 : Int), .slice A x.2.length c] 79)).alloc (.cells #[.int .i64 (y.1 : Int), .slice B y.2.length bc] 79)) := ((Below.refl _ _).alloc (Nat.le_refl _) _).alloc (by simp) _
  by_cases hx : x.1 = y.1
  · have hd : ((x.1 : Int) == (y.1 : Int)) = true := by simp [hx]
    rw [wreqb_b hx]
    have HX := Lib.hid hx; clear hx
    have E := equalB _ A _ c x.2 B _ bc y.2 (Sl.move h1 (Mv.of_below hb0 _)) (Sl.move h2 (Mv.of_below hb0 _)) hn hm
    go_enter Try.func50, Try.ntmps50
    go_wp2_with (go_at_call 51; refine E.mono ?_; rintro e w' ⟨rfl, hb⟩)
    go_ret
    exact ⟨rfl, hb0.trans (hb.mono hb0.size)⟩
  · have hd : ((x.1 : Int) == (y.1 : Int)) = false := by simp; omega
    rw [wreqb_at hx]
    clear hx
    go_enter Try.func50, Try.ntmps50
    go_wp2
    go_ret
    exact ⟨rfl, hb0⟩

def wsb (xs ys : List (Nat × List UInt8)) : Bool := decide (xs = ys)

set_option maxRecDepth 100000 in
set_option maxHeartbeats 2000000 in
theorem equalF {ok1 ok2 : Nat → Prop} (w : World) (A : Option Addr) (c : Nat) (xs : List (Nat × List UInt8)) (cs : List Value) (B : Option Addr) (bc : Nat) (ys : List (Nat × List UInt8)) (ds : List Value)
    (h1 : Sl w ok1 2 A xs.length c cs) (r1 : Rws (WrR w ok1) 2 xs cs) (h2 : Sl w ok2 2 B ys.length bc ds) (r2 : Rws (WrR w ok2) 2 ys ds) (hn : xs.length ≤ 1048576) (hm : ys.length ≤ 1048576) (hx : ∀ x, x ∈ xs → x.2.length ≤ 1048576) (hy : ∀ x, x ∈ ys → x.2.length ≤ 1048576) :
    Calls Try.prog 52 #[.slice A xs.length c, .slice B ys.length bc, .func (.func 50) #[] #[]] w fun e w' => e = .returned (.bool (wsb xs ys)) ∧ Below w.heap.size w w' := by
  by_cases hnm : xs.length = ys.length
  · have hne : ((xs.length : Int) != (ys.length : Int)) = false := by simp; omega
    have HN := Lib.hid hnm; clear hnm
    go_enter Try.func52, Try.ntmps52
    go_wp2
    go_loopw [17] (fun i wr => ∃ j : Nat, j ≤ xs.length ∧ i = .int .i64 j ∧ xs.take j = ys.take j ∧ Below w.heap.size w wr) (fun i _ => xs.length - (intOf i).toNat)
    case atStart => exact ⟨0, Nat.zero_le _, rfl, rfl, Below.refl _ _⟩
    case round =>
      obtain ⟨j, hj, rfl, hEq, hb⟩ := hrel
      have HE := Lib.hid hEq; clear hEq
      have hzb := hb.size
      by_cases hlt : j < xs.length
      · have hlt' : (j : Int) < xs.length := by omega
        have hlty : j < ys.length := by rw [← HN.out]; exact hlt
        have hlty' : (j : Int) < ys.length := by omega
        obtain ⟨a, A1, c1, rfl, _, ha, p0, p1, hbx⟩ := RefV.wr_at h1 r1 hlt
        obtain ⟨b, B1, d1, rfl, _, hb', q0, q1, hby⟩ := RefV.wr_at h2 r2 hlty
        have bx := hx _ (List.getElem_mem hlt)
        have byy := hy _ (List.getElem_mem hlty)
        obtain ⟨x, hxx⟩ : ∃ x, x = xs[j] := ⟨_, rfl⟩
        obtain ⟨y, hyy⟩ : ∃ y, y = ys[j] := ⟨_, rfl⟩
        rw [← hxx] at p0 p1 hbx bx
        rw [← hyy] at q0 q1 hby byy
        have HX := Lib.hid hxx; clear hxx
        have HY := Lib.hid hyy; clear hyy
        have p0 := (hb.cell (p := a.add (j * 2)) (by rw [add_block]; exact ha)).trans p0
        have p1 := (hb.cell (p := a.add (j * 2 + 1)) (by rw [add_block]; exact ha)).trans p1
        have q0 := (hb.cell (p := b.add (j * 2)) (by rw [add_block]; exact hb')).trans q0
        have q1 := (hb.cell (p := b.add (j * 2 + 1)) (by rw [add_block]; exact hb')).trans q1
        have p1' := cell_fld p1
        have q1' := cell_fld q1
        have q0l := cell_al q0
        have q1l := cell_al q1'
        have hbx : By wr (fun _ => True) A1 x.2.length c1 x.2 := Sl.mono (Sl.move hbx (Mv.of_below hb _)) (fun _ _ _ => trivial)
        have hby : By wr (fun _ => True) B1 y.2.length d1 y.2 := Sl.mono (Sl.move hby (Mv.of_below hb _)) (fun _ _ _ => trivial)
        have hb2 : Below wr.heap.size wr ((wr.alloc (.cells #[.int .i64 (x.1 : Int), .slice A1 x.2.length c1] 79)).alloc (.cells #[.int .i64 (y.1 : Int), .slice B1 y.2.length d1] 79)) := ((Below.refl _ _).alloc (Nat.le_refl _) _).alloc (by simp) _
        have C := same1 _ x y A1 c1 B1 d1 (Sl.move hbx (Mv.of_below hb2 _)) (Sl.move hby (Mv.of_below hb2 _)) bx byy
        have hbw2 := hb.trans (hb2.mono hzb)
        cases hr : wreqb x y with
        | true =>
          have hxy : x = y := by simpa [wreqb] using hr
          rw [hr] at C
          have HR := Lib.hid hr; clear hr
          have HXY := Lib.hid hxy; clear hxy
          go_wp2_with fail
          (with_reducible refine C.mono ?_)
          rintro e w5 ⟨rfl, hb5⟩
          have hbw5 := hbw2.trans (hb5.mono hbw2.size)
          go_wp2
          exact ⟨⟨j + 1, hlt, by simp, take_ext HE.out hlt hlty (by rw [← HX.out, ← HY.out, HXY.out]), hbw5⟩, by simp [intOf]; omega⟩
        | false =>
          have hf : wsb xs ys = false := by
            simp only [wsb, decide_eq_false_iff_not]
            intro h
            subst h
            have hxy : x = y := by rw [HX.out, HY.out]
            rw [hxy] at hr
            simp [wreqb] at hr
          have HF := Lib.hid hf; clear hf
          rw [hr] at C
          have HR := Lib.hid hr; clear hr
          go_wp2_with fail
          (with_reducible refine C.mono ?_)
          rintro e w5 ⟨rfl, hb5⟩
          have hbw5 := hbw2.trans (hb5.mono hbw2.size)
          go_wp2
          go_ret
          exact ⟨by rw [HF.out]; rfl, hbw5⟩
      · have hlt' : ¬ (j : Int) < xs.length := by omega
        have ht : wsb xs ys = true := by
          have h := HE.out
          rw [List.take_of_length_le (by omega), List.take_of_length_le (by rw [← HN.out]; omega)] at h
          simp [wsb, h]
        have HT := Lib.hid ht; clear ht
        go_wp2
        go_ret
        exact ⟨by rw [HT.out]; rfl, hb⟩
  · have hne : ((xs.length : Int) != (ys.length : Int)) = true := by simp; omega
    have hf : wsb xs ys = false := by
      simp only [wsb, decide_eq_false_iff_not]
      intro h
      subst h
      exact hnm rfl
    have HF := Lib.hid hf; clear hf hnm
    go_enter Try.func52, Try.ntmps52
    go_wp2
    go_ret
    exact ⟨by rw [HF.out]; rfl, Below.refl _ _⟩

/-- Are two disks the same? -/
def Dk.eqb (a b : Dk) : Bool := decide (a.lasts = b.lasts ∧ a.waits = b.waits ∧ a.steps = b.steps ∧ a.armed = b.armed)

set_option maxRecDepth 100000 in
set_option maxHeartbeats 4000000 in
theorem same_disk {R1 R2 : Nat → Prop} {w : World} {S1 S2 : Nat → Prop} {p q : Nat} {d e : Dk} (h1 : DiskR R1 w S1 p d) (h2 : DiskR R2 w S2 q e) (hw1 : d.waits.length ≤ 1048576) (hw2 : e.waits.length ≤ 1048576) :
    Calls Try.prog 32 #[.pointer (some ⟨p, 0, none⟩), .pointer (some ⟨q, 0, none⟩)] w fun r w' => r = .returned (.bool (d.eqb e)) ∧ Below w.heap.size w w' := by
  obtain ⟨hp1, hbig1, hsame1, hfit1⟩ := h1.props
  obtain ⟨hp2, hbig2, hsame2, hfit2⟩ := h2.props
  obtain ⟨_, fp1, _, hd1⟩ := h1
  obtain ⟨_, fp2, _, hd2⟩ := h2
  have N1 := none_disk hd1
  have N2 := none_disk hd2
  obtain ⟨nb1, nc1, LA1, lc1, WA1, wc1, wcs1, hd1⟩ := hd1
  obtain ⟨nb2, nc2, LA2, lc2, WA2, wc2, wcs2, hd2⟩ := hd2
  obtain ⟨c0, c1, c2, c3, c4, cf⟩ := hd1.cells
  obtain ⟨e0, e1, e2, e3, e4, ef⟩ := hd2.cells
  have hdr : Below w.heap.size w w.drew := (Below.refl _ _).drew
  have E1 := equalB w.drew LA1 _ lc1 d.lasts LA2 _ lc2 e.lasts (Sl.move hd1.lasts (Mv.of_below hdr _)) (Sl.move hd2.lasts (Mv.of_below hdr _)) (by omega) (by omega)
  have F1 : ∀ W, Below w.heap.size w W → Calls Try.prog 52 #[.slice WA1 d.waits.length wc1, .slice WA2 e.waits.length wc2, .func (.func 50) #[] #[]] W fun r w' => r = .returned (.bool (wsb d.waits e.waits)) ∧ Below W.heap.size W w' := by
    intro W hW
    obtain ⟨A3, c3', he3, hs3⟩ := Sl.of_own (ok := Any) hd1.waits (fun _ _ _ => trivial)
    injection he3 with i1 i2 i3
    subst i1; subst i3
    obtain ⟨A4, c4', he4, hs4⟩ := Sl.of_own (ok := Any) hd2.waits (fun _ _ _ => trivial)
    injection he4 with i1 i2 i3
    subst i1; subst i3
    refine equalF W WA1 wc1 d.waits wcs1 WA2 wc2 e.waits wcs2 (Sl.move hs3 (Mv.of_below hW _)) ?_ (Sl.move hs4 (Mv.of_below hW _)) ?_ hw1 hw2 (fun x hx => by have := hfit1 x hx; omega) (fun x hx => by have := hfit2 x hx; omega)
    · exact hd1.wrs.imp (fun _ _ h => (h.mono (ok1 := Any) (fun _ _ _ => trivial)).move (Mv.of_below hW _))
    · exact hd2.wrs.imp (fun _ _ h => (h.mono (ok1 := Any) (fun _ _ _ => trivial)).move (Mv.of_below hW _))
  have HS1 := Lib.hid hsame1; clear hsame1
  have HS2 := Lib.hid hsame2; clear hsame2
  have hpl : p < w.heap.size := World.block_lt_of_cell? w _ c0
  have hql : q < w.heap.size := World.block_lt_of_cell? w _ e0
  clear c0 e0
  by_cases hL : d.lasts = e.lasts
  · have hl : eqb d.lasts e.lasts = true := by simp [eqb, hL]
    rw [hl] at E1
    have HL := Lib.hid hL; clear hL hl
    by_cases hW : d.waits = e.waits
    · have hwt : wsb d.waits e.waits = true := by simp [wsb, hW]
      simp only [hwt] at F1
      have HW := Lib.hid hW; clear hW hwt
      by_cases hT : d.steps = e.steps
      · have ht : (d.steps == e.steps) = true := by simp [hT]
        have HT := Lib.hid hT; clear hT
        by_cases hM : d.armed = e.armed
        · have hm : (d.armed == e.armed) = true := by simp [hM]
          have he : d.eqb e = true := by simp only [Dk.eqb, decide_eq_true_eq]; exact ⟨HL.out, HW.out, HT.out, hM⟩
          have HE := Lib.hid he; clear he hM
          go_enter Try.func32, Try.ntmps32
          go_wp2_with (go_at_call 36; first | ((with_reducible refine N1.mono ?_); rintro r w' ⟨rfl, rfl⟩) | ((with_reducible refine N2.mono ?_); rintro r w' ⟨rfl, rfl⟩))
          refine wp_region_noPanic ?_
          refine plan (.rd 0 (.rd 1 (.rd 2 (.rd 3 (.rd 4 (.rd 5 (.rd 6 (.rd 7 (.eff 8 (.rd 9 (.rd 10 (.rd 11 (.rd 12 (.rd 13 (.rd 14 (.rd 15 (.rd 16 (.rd 17 (.rd 18 (.eff 19 (.rd 20 (.rd 21 (.rd 22 (.rd 23 (.rd 24 (.rd 25 (.rd 26 (.rd 27 (.rd 28 (.rd 29 (.rd 30 (.rd 31 (.rd 32 (.rd 33 (.rd 34 (.rd 35 (.rd 36 (.rd 37 (.rd 38 (.rd 39 (.rd 40 (.rd 41 (.rd 42 (.eff 43 .done)))))))))))))))))))))))))))))))))))))))))))) [0, 1, 2, 3, 4, 5, 6, 7, 8, 9, 10, 11, 12, 13, 14, 15, 16, 17, 18, 19, 20, 21, 22, 23, 24, 25, 26, 27, 28, 29, 30, 31, 32, 33, 34, 35, 36, 37, 38, 39, 40, 41, 42, 43] (fun W => Below w.heap.size w W) (by kernel_rfl) (by kernel_rfl) (fun _ _ _ _ _ h => h) hdr ?_
          repeat (refine pl_pure rfl (fun K hK => ?_); go_simp; refine hK _ ?_; clear hK K)
          refine pl_rd (.slice LA1 d.lasts.length lc1) rfl rfl (fun W hS => ?_) (fun K hK => ?_)
          · have f0 := (hS.cell (p := ⟨p, 1, none⟩) hpl).trans c1
            simp [go_sem, f0]
          go_simp
          refine hK _ ?_
          clear hK K
          repeat (refine pl_pure rfl (fun K hK => ?_); go_simp; refine hK _ ?_; clear hK K)
          refine pl_rd (.slice LA2 e.lasts.length lc2) rfl rfl (fun W hS => ?_) (fun K hK => ?_)
          · have f0 := (hS.cell (p := ⟨q, 1, none⟩) hql).trans e1
            simp [go_sem, f0]
          go_simp
          refine hK _ ?_
          clear hK K
          repeat (refine pl_pure rfl (fun K hK => ?_); go_simp; refine hK _ ?_; clear hK K)
          refine pl_eff rfl rfl (fun K hK => ?_)
          go_simp
          (with_reducible refine E1.mono ?_)
          rintro r w1 ⟨rfl, hb1⟩
          have hb1 : Below w.heap.size w w1 := hdr.trans hb1
          refine hK _ _ (fun _ => hb1) ?_
          clear hK K
          repeat (refine pl_pure rfl (fun K hK => ?_); go_simp; refine hK _ ?_; clear hK K)
          refine pl_rd (.slice WA1 d.waits.length wc1) rfl rfl (fun W hS => ?_) (fun K hK => ?_)
          · have f0 := (hS.cell (p := ⟨p, 2, none⟩) hpl).trans c2
            simp [go_sem, f0]
          go_simp
          refine hK _ ?_
          clear hK K
          repeat (refine pl_pure rfl (fun K hK => ?_); go_simp; refine hK _ ?_; clear hK K)
          refine pl_rd (.slice WA2 e.waits.length wc2) rfl rfl (fun W hS => ?_) (fun K hK => ?_)
          · have f0 := (hS.cell (p := ⟨q, 2, none⟩) hql).trans e2
            simp [go_sem, f0]
          go_simp
          refine hK _ ?_
          clear hK K
          repeat (refine pl_pure rfl (fun K hK => ?_); go_simp; refine hK _ ?_; clear hK K)
          refine pl_eff rfl rfl (fun K hK => ?_)
          go_simp
          (with_reducible refine (F1 w1 hb1).mono ?_)
          rintro r w2 ⟨rfl, hb2⟩
          have hb2 : Below w.heap.size w w2 := hb1.trans (hb2.mono hb1.size)
          refine hK _ _ (fun _ => hb2) ?_
          clear hK K
          repeat (refine pl_pure rfl (fun K hK => ?_); go_simp; refine hK _ ?_; clear hK K)
          refine pl_rd (.int .i64 d.steps) rfl rfl (fun W hS => ?_) (fun K hK => ?_)
          · have f0 := (hS.cell (p := ⟨p, 3, none⟩) hpl).trans c3
            simp [go_sem, f0]
          go_simp
          refine hK _ ?_
          clear hK K
          repeat (refine pl_pure rfl (fun K hK => ?_); go_simp; refine hK _ ?_; clear hK K)
          refine pl_rd (.int .i64 e.steps) rfl rfl (fun W hS => ?_) (fun K hK => ?_)
          · have f0 := (hS.cell (p := ⟨q, 3, none⟩) hql).trans e3
            simp [go_sem, f0]
          go_simp
          refine hK _ ?_
          clear hK K
          repeat (refine pl_pure rfl (fun K hK => ?_); go_simp; refine hK _ ?_; clear hK K)
          refine pl_rd (.int .i64 d.armed) rfl rfl (fun W hS => ?_) (fun K hK => ?_)
          · have f0 := (hS.cell (p := ⟨p, 4, none⟩) hpl).trans c4
            simp [go_sem, f0]
          go_simp
          refine hK _ ?_
          clear hK K
          repeat (refine pl_pure rfl (fun K hK => ?_); go_simp; refine hK _ ?_; clear hK K)
          refine pl_rd (.int .i64 e.armed) rfl rfl (fun W hS => ?_) (fun K hK => ?_)
          · have f0 := (hS.cell (p := ⟨q, 4, none⟩) hql).trans e4
            simp [go_sem, f0]
          go_simp
          refine hK _ ?_
          clear hK K
          repeat (refine pl_pure rfl (fun K hK => ?_); go_simp; refine hK _ ?_; clear hK K)
          refine pl_eff rfl rfl (fun K hK => ?_)
          go_simp
          refine hK _ _ (fun _ => hb2) ?_
          clear hK K
          refine pl_done ?_
          refine NoPanic.normal ?_
          go_wp2
          go_ret
          exact ⟨by rw [HE.out]; rfl, hb2⟩
        · have hm : (d.armed == e.armed) = false := by simp [hM]
          have he : d.eqb e = false := by simp only [Dk.eqb, decide_eq_false_iff_not]; exact fun h => hM h.2.2.2
          have HE := Lib.hid he; clear he hM
          go_enter Try.func32, Try.ntmps32
          go_wp2_with (go_at_call 36; first | ((with_reducible refine N1.mono ?_); rintro r w' ⟨rfl, rfl⟩) | ((with_reducible refine N2.mono ?_); rintro r w' ⟨rfl, rfl⟩))
          refine wp_region_noPanic ?_
          refine plan (.rd 0 (.rd 1 (.rd 2 (.rd 3 (.rd 4 (.rd 5 (.rd 6 (.rd 7 (.eff 8 (.rd 9 (.rd 10 (.rd 11 (.rd 12 (.rd 13 (.rd 14 (.rd 15 (.rd 16 (.rd 17 (.rd 18 (.eff 19 (.rd 20 (.rd 21 (.rd 22 (.rd 23 (.rd 24 (.rd 25 (.rd 26 (.rd 27 (.rd 28 (.rd 29 (.rd 30 (.rd 31 (.rd 32 (.rd 33 (.rd 34 (.rd 35 (.rd 36 (.rd 37 (.rd 38 (.rd 39 (.rd 40 (.rd 41 (.rd 42 (.eff 43 .done)))))))))))))))))))))))))))))))))))))))))))) [0, 1, 2, 3, 4, 5, 6, 7, 8, 9, 10, 11, 12, 13, 14, 15, 16, 17, 18, 19, 20, 21, 22, 23, 24, 25, 26, 27, 28, 29, 30, 31, 32, 33, 34, 35, 36, 37, 38, 39, 40, 41, 42, 43] (fun W => Below w.heap.size w W) (by kernel_rfl) (by kernel_rfl) (fun _ _ _ _ _ h => h) hdr ?_
          repeat (refine pl_pure rfl (fun K hK => ?_); go_simp; refine hK _ ?_; clear hK K)
          refine pl_rd (.slice LA1 d.lasts.length lc1) rfl rfl (fun W hS => ?_) (fun K hK => ?_)
          · have f0 := (hS.cell (p := ⟨p, 1, none⟩) hpl).trans c1
            simp [go_sem, f0]
          go_simp
          refine hK _ ?_
          clear hK K
          repeat (refine pl_pure rfl (fun K hK => ?_); go_simp; refine hK _ ?_; clear hK K)
          refine pl_rd (.slice LA2 e.lasts.length lc2) rfl rfl (fun W hS => ?_) (fun K hK => ?_)
          · have f0 := (hS.cell (p := ⟨q, 1, none⟩) hql).trans e1
            simp [go_sem, f0]
          go_simp
          refine hK _ ?_
          clear hK K
          repeat (refine pl_pure rfl (fun K hK => ?_); go_simp; refine hK _ ?_; clear hK K)
          refine pl_eff rfl rfl (fun K hK => ?_)
          go_simp
          (with_reducible refine E1.mono ?_)
          rintro r w1 ⟨rfl, hb1⟩
          have hb1 : Below w.heap.size w w1 := hdr.trans hb1
          refine hK _ _ (fun _ => hb1) ?_
          clear hK K
          repeat (refine pl_pure rfl (fun K hK => ?_); go_simp; refine hK _ ?_; clear hK K)
          refine pl_rd (.slice WA1 d.waits.length wc1) rfl rfl (fun W hS => ?_) (fun K hK => ?_)
          · have f0 := (hS.cell (p := ⟨p, 2, none⟩) hpl).trans c2
            simp [go_sem, f0]
          go_simp
          refine hK _ ?_
          clear hK K
          repeat (refine pl_pure rfl (fun K hK => ?_); go_simp; refine hK _ ?_; clear hK K)
          refine pl_rd (.slice WA2 e.waits.length wc2) rfl rfl (fun W hS => ?_) (fun K hK => ?_)
          · have f0 := (hS.cell (p := ⟨q, 2, none⟩) hql).trans e2
            simp [go_sem, f0]
          go_simp
          refine hK _ ?_
          clear hK K
          repeat (refine pl_pure rfl (fun K hK => ?_); go_simp; refine hK _ ?_; clear hK K)
          refine pl_eff rfl rfl (fun K hK => ?_)
          go_simp
          (with_reducible refine (F1 w1 hb1).mono ?_)
          rintro r w2 ⟨rfl, hb2⟩
          have hb2 : Below w.heap.size w w2 := hb1.trans (hb2.mono hb1.size)
          refine hK _ _ (fun _ => hb2) ?_
          clear hK K
          repeat (refine pl_pure rfl (fun K hK => ?_); go_simp; refine hK _ ?_; clear hK K)
          refine pl_rd (.int .i64 d.steps) rfl rfl (fun W hS => ?_) (fun K hK => ?_)
          · have f0 := (hS.cell (p := ⟨p, 3, none⟩) hpl).trans c3
            simp [go_sem, f0]
          go_simp
          refine hK _ ?_
          clear hK K
          repeat (refine pl_pure rfl (fun K hK => ?_); go_simp; refine hK _ ?_; clear hK K)
          refine pl_rd (.int .i64 e.steps) rfl rfl (fun W hS => ?_) (fun K hK => ?_)
          · have f0 := (hS.cell (p := ⟨q, 3, none⟩) hql).trans e3
            simp [go_sem, f0]
          go_simp
          refine hK _ ?_
          clear hK K
          repeat (refine pl_pure rfl (fun K hK => ?_); go_simp; refine hK _ ?_; clear hK K)
          refine pl_rd (.int .i64 d.armed) rfl rfl (fun W hS => ?_) (fun K hK => ?_)
          · have f0 := (hS.cell (p := ⟨p, 4, none⟩) hpl).trans c4
            simp [go_sem, f0]
          go_simp
          refine hK _ ?_
          clear hK K
          repeat (refine pl_pure rfl (fun K hK => ?_); go_simp; refine hK _ ?_; clear hK K)
          refine pl_rd (.int .i64 e.armed) rfl rfl (fun W hS => ?_) (fun K hK => ?_)
          · have f0 := (hS.cell (p := ⟨q, 4, none⟩) hql).trans e4
            simp [go_sem, f0]
          go_simp
          refine hK _ ?_
          clear hK K
          repeat (refine pl_pure rfl (fun K hK => ?_); go_simp; refine hK _ ?_; clear hK K)
          refine pl_eff rfl rfl (fun K hK => ?_)
          go_simp
          refine hK _ _ (fun _ => hb2) ?_
          clear hK K
          refine pl_done ?_
          refine NoPanic.normal ?_
          go_wp2
          go_ret
          exact ⟨by rw [HE.out]; rfl, hb2⟩
      · have ht : (d.steps == e.steps) = false := by simp [hT]
        have he : d.eqb e = false := by simp only [Dk.eqb, decide_eq_false_iff_not]; exact fun h => hT h.2.2.1
        have HE := Lib.hid he; clear he hT
        go_enter Try.func32, Try.ntmps32
        go_wp2_with (go_at_call 36; first | ((with_reducible refine N1.mono ?_); rintro r w' ⟨rfl, rfl⟩) | ((with_reducible refine N2.mono ?_); rintro r w' ⟨rfl, rfl⟩))
        refine wp_region_noPanic ?_
        refine plan (.rd 0 (.rd 1 (.rd 2 (.rd 3 (.rd 4 (.rd 5 (.rd 6 (.rd 7 (.eff 8 (.rd 9 (.rd 10 (.rd 11 (.rd 12 (.rd 13 (.rd 14 (.rd 15 (.rd 16 (.rd 17 (.rd 18 (.eff 19 (.rd 20 (.rd 21 (.rd 22 (.rd 23 (.rd 24 (.rd 25 (.rd 26 (.rd 27 (.rd 28 (.rd 29 (.rd 30 (.rd 31 (.rd 32 (.rd 33 (.rd 34 (.rd 35 (.rd 36 (.rd 37 (.rd 38 (.rd 39 (.rd 40 (.rd 41 (.rd 42 (.eff 43 .done)))))))))))))))))))))))))))))))))))))))))))) [0, 1, 2, 3, 4, 5, 6, 7, 8, 9, 10, 11, 12, 13, 14, 15, 16, 17, 18, 19, 20, 21, 22, 23, 24, 25, 26, 27, 28, 29, 30, 31, 32, 33, 34, 35, 36, 37, 38, 39, 40, 41, 42, 43] (fun W => Below w.heap.size w W) (by kernel_rfl) (by kernel_rfl) (fun _ _ _ _ _ h => h) hdr ?_
        repeat (refine pl_pure rfl (fun K hK => ?_); go_simp; refine hK _ ?_; clear hK K)
        refine pl_rd (.slice LA1 d.lasts.length lc1) rfl rfl (fun W hS => ?_) (fun K hK => ?_)
        · have f0 := (hS.cell (p := ⟨p, 1, none⟩) hpl).trans c1
          simp [go_sem, f0]
        go_simp
        refine hK _ ?_
        clear hK K
        repeat (refine pl_pure rfl (fun K hK => ?_); go_simp; refine hK _ ?_; clear hK K)
        refine pl_rd (.slice LA2 e.lasts.length lc2) rfl rfl (fun W hS => ?_) (fun K hK => ?_)
        · have f0 := (hS.cell (p := ⟨q, 1, none⟩) hql).trans e1
          simp [go_sem, f0]
        go_simp
        refine hK _ ?_
        clear hK K
        repeat (refine pl_pure rfl (fun K hK => ?_); go_simp; refine hK _ ?_; clear hK K)
        refine pl_eff rfl rfl (fun K hK => ?_)
        go_simp
        (with_reducible refine E1.mono ?_)
        rintro r w1 ⟨rfl, hb1⟩
        have hb1 : Below w.heap.size w w1 := hdr.trans hb1
        refine hK _ _ (fun _ => hb1) ?_
        clear hK K
        repeat (refine pl_pure rfl (fun K hK => ?_); go_simp; refine hK _ ?_; clear hK K)
        refine pl_rd (.slice WA1 d.waits.length wc1) rfl rfl (fun W hS => ?_) (fun K hK => ?_)
        · have f0 := (hS.cell (p := ⟨p, 2, none⟩) hpl).trans c2
          simp [go_sem, f0]
        go_simp
        refine hK _ ?_
        clear hK K
        repeat (refine pl_pure rfl (fun K hK => ?_); go_simp; refine hK _ ?_; clear hK K)
        refine pl_rd (.slice WA2 e.waits.length wc2) rfl rfl (fun W hS => ?_) (fun K hK => ?_)
        · have f0 := (hS.cell (p := ⟨q, 2, none⟩) hql).trans e2
          simp [go_sem, f0]
        go_simp
        refine hK _ ?_
        clear hK K
        repeat (refine pl_pure rfl (fun K hK => ?_); go_simp; refine hK _ ?_; clear hK K)
        refine pl_eff rfl rfl (fun K hK => ?_)
        go_simp
        (with_reducible refine (F1 w1 hb1).mono ?_)
        rintro r w2 ⟨rfl, hb2⟩
        have hb2 : Below w.heap.size w w2 := hb1.trans (hb2.mono hb1.size)
        refine hK _ _ (fun _ => hb2) ?_
        clear hK K
        repeat (refine pl_pure rfl (fun K hK => ?_); go_simp; refine hK _ ?_; clear hK K)
        refine pl_rd (.int .i64 d.steps) rfl rfl (fun W hS => ?_) (fun K hK => ?_)
        · have f0 := (hS.cell (p := ⟨p, 3, none⟩) hpl).trans c3
          simp [go_sem, f0]
        go_simp
        refine hK _ ?_
        clear hK K
        repeat (refine pl_pure rfl (fun K hK => ?_); go_simp; refine hK _ ?_; clear hK K)
        refine pl_rd (.int .i64 e.steps) rfl rfl (fun W hS => ?_) (fun K hK => ?_)
        · have f0 := (hS.cell (p := ⟨q, 3, none⟩) hql).trans e3
          simp [go_sem, f0]
        go_simp
        refine hK _ ?_
        clear hK K
        repeat (refine pl_pure rfl (fun K hK => ?_); go_simp; refine hK _ ?_; clear hK K)
        refine pl_eff rfl rfl (fun K hK => ?_)
        go_simp
        refine hK _ _ (fun _ => hb2) ?_
        clear hK K
        refine pl_done ?_
        refine NoPanic.normal ?_
        go_wp2
        go_ret
        exact ⟨by rw [HE.out]; rfl, hb2⟩
    · have hwf : wsb d.waits e.waits = false := by simp [wsb, hW]
      simp only [hwf] at F1
      have he : d.eqb e = false := by simp only [Dk.eqb, decide_eq_false_iff_not]; exact fun h => hW h.2.1
      have HE := Lib.hid he; clear he hW hwf
      go_enter Try.func32, Try.ntmps32
      go_wp2_with (go_at_call 36; first | ((with_reducible refine N1.mono ?_); rintro r w' ⟨rfl, rfl⟩) | ((with_reducible refine N2.mono ?_); rintro r w' ⟨rfl, rfl⟩))
      refine wp_region_noPanic ?_
      refine plan (.rd 0 (.rd 1 (.rd 2 (.rd 3 (.rd 4 (.rd 5 (.rd 6 (.rd 7 (.eff 8 (.rd 9 (.rd 10 (.rd 11 (.rd 12 (.rd 13 (.rd 14 (.rd 15 (.rd 16 (.rd 17 (.rd 18 (.eff 19 (.rd 20 (.rd 21 (.rd 22 (.rd 23 (.rd 24 (.rd 25 (.rd 26 (.rd 27 (.rd 28 (.rd 29 (.rd 30 (.rd 31 (.rd 32 (.rd 33 (.rd 34 (.rd 35 (.rd 36 (.rd 37 (.rd 38 (.rd 39 (.rd 40 (.rd 41 (.rd 42 (.eff 43 .done)))))))))))))))))))))))))))))))))))))))))))) [0, 1, 2, 3, 4, 5, 6, 7, 8, 9, 10, 11, 12, 13, 14, 15, 16, 17, 18, 19, 20, 21, 22, 23, 24, 25, 26, 27, 28, 29, 30, 31, 32, 33, 34, 35, 36, 37, 38, 39, 40, 41, 42, 43] (fun W => Below w.heap.size w W) (by kernel_rfl) (by kernel_rfl) (fun _ _ _ _ _ h => h) hdr ?_
      repeat (refine pl_pure rfl (fun K hK => ?_); go_simp; refine hK _ ?_; clear hK K)
      refine pl_rd (.slice LA1 d.lasts.length lc1) rfl rfl (fun W hS => ?_) (fun K hK => ?_)
      · have f0 := (hS.cell (p := ⟨p, 1, none⟩) hpl).trans c1
        simp [go_sem, f0]
      go_simp
      refine hK _ ?_
      clear hK K
      repeat (refine pl_pure rfl (fun K hK => ?_); go_simp; refine hK _ ?_; clear hK K)
      refine pl_rd (.slice LA2 e.lasts.length lc2) rfl rfl (fun W hS => ?_) (fun K hK => ?_)
      · have f0 := (hS.cell (p := ⟨q, 1, none⟩) hql).trans e1
        simp [go_sem, f0]
      go_simp
      refine hK _ ?_
      clear hK K
      repeat (refine pl_pure rfl (fun K hK => ?_); go_simp; refine hK _ ?_; clear hK K)
      refine pl_eff rfl rfl (fun K hK => ?_)
      go_simp
      (with_reducible refine E1.mono ?_)
      rintro r w1 ⟨rfl, hb1⟩
      have hb1 : Below w.heap.size w w1 := hdr.trans hb1
      refine hK _ _ (fun _ => hb1) ?_
      clear hK K
      repeat (refine pl_pure rfl (fun K hK => ?_); go_simp; refine hK _ ?_; clear hK K)
      refine pl_rd (.slice WA1 d.waits.length wc1) rfl rfl (fun W hS => ?_) (fun K hK => ?_)
      · have f0 := (hS.cell (p := ⟨p, 2, none⟩) hpl).trans c2
        simp [go_sem, f0]
      go_simp
      refine hK _ ?_
      clear hK K
      repeat (refine pl_pure rfl (fun K hK => ?_); go_simp; refine hK _ ?_; clear hK K)
      refine pl_rd (.slice WA2 e.waits.length wc2) rfl rfl (fun W hS => ?_) (fun K hK => ?_)
      · have f0 := (hS.cell (p := ⟨q, 2, none⟩) hql).trans e2
        simp [go_sem, f0]
      go_simp
      refine hK _ ?_
      clear hK K
      repeat (refine pl_pure rfl (fun K hK => ?_); go_simp; refine hK _ ?_; clear hK K)
      refine pl_eff rfl rfl (fun K hK => ?_)
      go_simp
      (with_reducible refine (F1 w1 hb1).mono ?_)
      rintro r w2 ⟨rfl, hb2⟩
      have hb2 : Below w.heap.size w w2 := hb1.trans (hb2.mono hb1.size)
      refine hK _ _ (fun _ => hb2) ?_
      clear hK K
      repeat (refine pl_pure rfl (fun K hK => ?_); go_simp; refine hK _ ?_; clear hK K)
      refine pl_eff rfl rfl (fun K hK => ?_)
      go_simp
      refine hK _ _ (fun _ => hb2) ?_
      clear hK K
      refine pl_done ?_
      refine NoPanic.normal ?_
      go_wp2
      go_ret
      exact ⟨by rw [HE.out]; rfl, hb2⟩
  · have hl : eqb d.lasts e.lasts = false := by simp [eqb, hL]
    rw [hl] at E1
    have he : d.eqb e = false := by simp only [Dk.eqb, decide_eq_false_iff_not]; exact fun h => hL h.1
    have HE := Lib.hid he; clear he hL hl
    go_enter Try.func32, Try.ntmps32
    go_wp2_with (go_at_call 36; first | ((with_reducible refine N1.mono ?_); rintro r w' ⟨rfl, rfl⟩) | ((with_reducible refine N2.mono ?_); rintro r w' ⟨rfl, rfl⟩))
    refine wp_region_noPanic ?_
    refine plan (.rd 0 (.rd 1 (.rd 2 (.rd 3 (.rd 4 (.rd 5 (.rd 6 (.rd 7 (.eff 8 (.rd 9 (.rd 10 (.rd 11 (.rd 12 (.rd 13 (.rd 14 (.rd 15 (.rd 16 (.rd 17 (.rd 18 (.rd 19 (.rd 20 (.rd 21 (.rd 22 (.rd 23 (.rd 24 (.rd 25 (.rd 26 (.rd 27 (.rd 28 (.rd 29 (.rd 30 (.rd 31 (.rd 32 (.rd 33 (.rd 34 (.rd 35 (.rd 36 (.rd 37 (.rd 38 (.rd 39 (.rd 40 (.rd 41 (.rd 42 (.eff 43 .done)))))))))))))))))))))))))))))))))))))))))))) [0, 1, 2, 3, 4, 5, 6, 7, 8, 9, 10, 11, 12, 13, 14, 15, 16, 17, 18, 19, 20, 21, 22, 23, 24, 25, 26, 27, 28, 29, 30, 31, 32, 33, 34, 35, 36, 37, 38, 39, 40, 41, 42, 43] (fun W => Below w.heap.size w W) (by kernel_rfl) (by kernel_rfl) (fun _ _ _ _ _ h => h) hdr ?_
    repeat (refine pl_pure rfl (fun K hK => ?_); go_simp; refine hK _ ?_; clear hK K)
    refine pl_rd (.slice LA1 d.lasts.length lc1) rfl rfl (fun W hS => ?_) (fun K hK => ?_)
    · have f0 := (hS.cell (p := ⟨p, 1, none⟩) hpl).trans c1
      simp [go_sem, f0]
    go_simp
    refine hK _ ?_
    clear hK K
    repeat (refine pl_pure rfl (fun K hK => ?_); go_simp; refine hK _ ?_; clear hK K)
    refine pl_rd (.slice LA2 e.lasts.length lc2) rfl rfl (fun W hS => ?_) (fun K hK => ?_)
    · have f0 := (hS.cell (p := ⟨q, 1, none⟩) hql).trans e1
      simp [go_sem, f0]
    go_simp
    refine hK _ ?_
    clear hK K
    repeat (refine pl_pure rfl (fun K hK => ?_); go_simp; refine hK _ ?_; clear hK K)
    refine pl_eff rfl rfl (fun K hK => ?_)
    go_simp
    (with_reducible refine E1.mono ?_)
    rintro r w1 ⟨rfl, hb1⟩
    have hb1 : Below w.heap.size w w1 := hdr.trans hb1
    refine hK _ _ (fun _ => hb1) ?_
    clear hK K
    repeat (refine pl_pure rfl (fun K hK => ?_); go_simp; refine hK _ ?_; clear hK K)
    refine pl_eff rfl rfl (fun K hK => ?_)
    go_simp
    refine hK _ _ (fun _ => hb1) ?_
    clear hK K
    refine pl_done ?_
    refine NoPanic.normal ?_
    go_wp2
    go_ret
    exact ⟨by rw [HE.out]; rfl, hb1⟩
end Go.Proofs.Ytmajfiljajbipaa
