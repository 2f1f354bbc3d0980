/- The disk's getters; what makes a disk. -/
import Derived.Test.YtmajfiljajbipaaDsk3
set_option linter.unusedVariables false
namespace Go.Proofs.Ytmajfiljajbipaa
open Go.RowKit

theorem steps_disk {w : World} {fp ok : Nat → Prop} {p : Nat} {d : Dk} (h : Disk w fp ok p d) : Calls Try.prog 18 #[.pointer (some ⟨p,0,none⟩)] w fun e w' => e = .returned (.int .i64 d.steps) ∧ w = w' := by
  have H1 := Lib.hid (none_disk h)
  obtain ⟨nb, nc, LA, lc, WA, wc, wcs, h⟩ := h
  obtain ⟨c0, c1, c2, c3, c4, cf⟩ := h.cells
  go_enter Try.func18, Try.ntmps18
  go_wp2_with (go_at_call 36; refine H1.out.mono ?_; rintro e w' ⟨rfl, rfl⟩)
  go_ret
  exact ⟨rfl, rfl⟩
theorem size_disk {w : World} {fp ok : Nat → Prop} {p : Nat} {d : Dk} (h : Disk w fp ok p d) : Calls Try.prog 33 #[.pointer (some ⟨p,0,none⟩)] w fun e w' => e = .returned (.int .i64 (d.now.length : Int)) ∧ w = w' := by
  have H1 := Lib.hid (none_disk h)
  obtain ⟨nb, nc, LA, lc, WA, wc, wcs, h⟩ := h
  obtain ⟨c0, c1, c2, c3, c4, cf⟩ := h.cells
  go_enter Try.func33, Try.ntmps33
  go_wp2_with (go_at_call 36; refine H1.out.mono ?_; rintro e w' ⟨rfl, rfl⟩)
  go_ret
  exact ⟨rfl, rfl⟩
theorem waits_disk {w : World} {fp ok : Nat → Prop} {p : Nat} {d : Dk} (h : Disk w fp ok p d) : Calls Try.prog 23 #[.pointer (some ⟨p,0,none⟩)] w fun e w' => e = .returned (.int .i64 (d.waits.length : Int)) ∧ w = w' := by
  have H1 := Lib.hid (none_disk h)
  obtain ⟨nb, nc, LA, lc, WA, wc, wcs, h⟩ := h
  obtain ⟨c0, c1, c2, c3, c4, cf⟩ := h.cells
  go_enter Try.func23, Try.ntmps23
  go_wp2_with (go_at_call 36; refine H1.out.mono ?_; rintro e w' ⟨rfl, rfl⟩)
  go_ret
  exact ⟨rfl, rfl⟩
/-- What a call hands back that is a slice of bytes of its own. -/
def Fresh (w : World) (l : List UInt8) (e : Ending) (w' : World) : Prop := ∃ A c, e = .returned (.slice A l.length c) ∧ w'.ownsRow w.heap.size 5 1 (.slice A l.length c) l.length (bv l) ∧ Below w.heap.size w w'
theorem lasts_disk {w : World} {fp ok : Nat → Prop} {p : Nat} {d : Dk} (h : Disk w fp ok p d) : Calls Try.prog 20 #[.pointer (some ⟨p,0,none⟩)] w (Fresh w d.lasts) := by
  have H1 := Lib.hid (none_disk h)
  obtain ⟨nb, nc, LA, lc, WA, wc, wcs, h⟩ := h
  obtain ⟨c0, c1, c2, c3, c4, cf⟩ := h.cells
  have hbig := h.big
  have hs := h.same
  have HS := Lib.hid hs
  have hle : d.lasts.length ≤ 70368744177664 := by omega
  clear hs
  go_enter Try.func20, Try.ntmps20
  go_wp2_with (first | (go_at_call 36; refine H1.out.mono ?_; rintro e w' ⟨rfl, rfl⟩) | (go_at_call 38; refine (cloneB _ _ _ _ d.lasts h.lasts hle).mono ?_; rintro e w1 ⟨A', c', rfl, hown, hb1⟩))
  go_ret
  exact ⟨A', c', rfl, hown, hb1⟩
theorem read_disk {w : World} {fp ok : Nat → Prop} {p : Nat} {d : Dk} (h : Disk w fp ok p d) (at_ n : Nat) (hx : at_ + n ≤ d.now.length) :
    Calls Try.prog 21 #[.pointer (some ⟨p,0,none⟩), .int .i64 (at_ : Int), .int .i64 (n : Int)] w fun e w' => ∃ A c, e = .returned (.tuple #[.slice A n c, .int .i64 0]) ∧ w'.ownsRow w.heap.size 5 1 (.slice A n c) n (bv ((d.now.take (at_ + n)).drop at_)) ∧ Below w.heap.size w w' := by
  have H1 := Lib.hid (none_disk h)
  have h2 := there_disk h at_ n
  rw [decide_eq_true (by omega)] at h2
  have H2 := Lib.hid h2; clear h2
  obtain ⟨nb, nc, LA, lc, WA, wc, wcs, h⟩ := h
  obtain ⟨c0, c1, c2, c3, c4, cf⟩ := h.cells
  have hbig := h.big
  obtain ⟨A0, n0, he0, hs0⟩ := Sl.of_own (ok := Any) h.now (fun _ _ _ => trivial)
  injection he0 with he1 he2 he3
  subst he1; subst he3
  have hnc := hs0.2.1
  obtain ⟨A1, hcut, _, hS⟩ := cut_lh (P := Try.prog) 38 5 1 Try.underlying38 size_u8 .i64 .i64 (some ⟨nb, 0, none⟩) d.now.length nc at_ (at_ + n) (by omega) (by omega)
  have hs1 := hS w Any _ hx hs0
  rw [Nat.add_sub_cancel_left] at hs1
  simp only [Nat.add_sub_cancel_left, Int.natCast_add] at hcut
  have hsb : By w Any A1 n (nc - at_) ((d.now.take (at_ + n)).drop at_) := by simpa [By, bv, List.map_take, List.map_drop] using hs1
  clear hs1 hS
  have hn0 : (0 : Int) ≤ n := by omega
  go_enter Try.func21, Try.ntmps21
  go_wp2_with (first | (go_at_call 36; refine H1.out.mono ?_; rintro e w' ⟨rfl, rfl⟩) | (go_at_call 37; refine H2.out.mono ?_; rintro e w' ⟨rfl, rfl⟩) | (go_at_call 38; refine (cloneB _ _ _ _ _ hsb (by omega)).mono ?_; rintro e w1 ⟨A', c', rfl, hown, hb1⟩))
  go_ret2
  exact ⟨A', c', rfl, hown, hb1⟩
theorem read_arg {w : World} {fp ok : Nat → Prop} {p : Nat} {d : Dk} (h : Disk w fp ok p d) (x n : Int) (hn : n < 0) :
    Calls Try.prog 21 #[.pointer (some ⟨p,0,none⟩), .int .i64 x, .int .i64 n] w fun e w' => e = .returned (.tuple #[.slice none 0 0, .int .i64 2]) ∧ w = w' := by
  have H1 := Lib.hid (none_disk h)
  go_enter Try.func21, Try.ntmps21
  go_wp2_with (go_at_call 36; refine H1.out.mono ?_; rintro e w' ⟨rfl, rfl⟩)
  go_ret2
  exact ⟨rfl, rfl⟩
theorem read_range {w : World} {fp ok : Nat → Prop} {p : Nat} {d : Dk} (h : Disk w fp ok p d) (x n : Int) (hn : 0 ≤ n) (hx : ¬ (0 ≤ x ∧ x ≤ d.now.length ∧ n ≤ d.now.length - x)) :
    Calls Try.prog 21 #[.pointer (some ⟨p,0,none⟩), .int .i64 x, .int .i64 n] w fun e w' => e = .returned (.tuple #[.slice none 0 0, .int .i64 4]) ∧ w = w' := by
  have H1 := Lib.hid (none_disk h)
  have h2 := there_disk h x n
  rw [decide_eq_false hx] at h2
  have H2 := Lib.hid h2; clear h2 hx
  go_enter Try.func21, Try.ntmps21
  go_wp2_with (first | (go_at_call 36; refine H1.out.mono ?_; rintro e w' ⟨rfl, rfl⟩) | (go_at_call 37; refine H2.out.mono ?_; rintro e w' ⟨rfl, rfl⟩))
  go_ret2
  exact ⟨rfl, rfl⟩
theorem arm_disk {w : World} {fp ok : Nat → Prop} {p : Nat} {d : Dk} (h : Disk w fp ok p d) (n : Int) :
    Calls Try.prog 14 #[.pointer (some ⟨p,0,none⟩), .int .i64 n] w fun e w' => e = .returned (.int .i64 0) ∧ Disk w' fp ok p { d with armed := max n (-1) } ∧ Kp fp w w' := by
  have H1 := Lib.hid (none_disk h)
  obtain ⟨nb, nc, LA, lc, WA, wc, wcs, hd⟩ := h
  obtain ⟨c0, c1, c2, c3, c4, cf⟩ := hd.cells
  have f4 := cf 4
  go_enter Try.func14, Try.ntmps14
  go_wp2_with (go_at_call 36; refine H1.out.mono ?_; rintro e w' ⟨rfl, rfl⟩)
  all_goals go_ret
  all_goals refine ⟨rfl, ⟨nb, nc, LA, lc, WA, wc, wcs, ?_⟩, (Kp.refl fp w).setCell (.inl hd.fpp) _⟩
  all_goals first
    | (rw [show max n (-1) = n from by simp only [Int.max_def]; split <;> omega]; exact hd.set4 n)
    | (rw [show max n (-1) = -1 from by simp only [Int.max_def]; split <;> omega]; exact hd.set4 (-1))

/-! ### none -/
theorem nil_steps (w : World) : Calls Try.prog 18 #[.pointer none] w fun e w' => e = .returned (.int .i64 0) ∧ w = w' := by
  have H1 := none_nil w
  have H1 := Lib.hid H1
  go_enter Try.func18, Try.ntmps18
  go_wp2_with (go_at_call 36; refine (none_nil _).mono ?_; rintro e w' ⟨rfl, rfl⟩)
  go_ret
  exact ⟨rfl, rfl⟩
theorem nil_size (w : World) : Calls Try.prog 33 #[.pointer none] w fun e w' => e = .returned (.int .i64 0) ∧ w = w' := by
  go_enter Try.func33, Try.ntmps33
  go_wp2_with (go_at_call 36; refine (none_nil _).mono ?_; rintro e w' ⟨rfl, rfl⟩)
  go_ret
  exact ⟨rfl, rfl⟩
theorem nil_waits (w : World) : Calls Try.prog 23 #[.pointer none] w fun e w' => e = .returned (.int .i64 0) ∧ w = w' := by
  go_enter Try.func23, Try.ntmps23
  go_wp2_with (go_at_call 36; refine (none_nil _).mono ?_; rintro e w' ⟨rfl, rfl⟩)
  go_ret
  exact ⟨rfl, rfl⟩
theorem nil_lasts (w : World) : Calls Try.prog 20 #[.pointer none] w fun e w' => e = .returned (.slice none 0 0) ∧ w = w' := by
  go_enter Try.func20, Try.ntmps20
  go_wp2_with (go_at_call 36; refine (none_nil _).mono ?_; rintro e w' ⟨rfl, rfl⟩)
  go_ret
  exact ⟨rfl, rfl⟩
theorem nil_read (w : World) (x n : Int) : Calls Try.prog 21 #[.pointer none, .int .i64 x, .int .i64 n] w fun e w' => e = .returned (.tuple #[.slice none 0 0, .int .i64 1]) ∧ w = w' := by
  go_enter Try.func21, Try.ntmps21
  go_wp2_with (go_at_call 36; refine (none_nil _).mono ?_; rintro e w' ⟨rfl, rfl⟩)
  go_ret2
  exact ⟨rfl, rfl⟩
theorem nil_arm (w : World) (n : Int) : Calls Try.prog 14 #[.pointer none, .int .i64 n] w fun e w' => e = .returned (.int .i64 1) ∧ w = w' := by
  go_enter Try.func14, Try.ntmps14
  go_wp2_with (go_at_call 36; refine (none_nil _).mono ?_; rintro e w' ⟨rfl, rfl⟩)
  go_ret
  exact ⟨rfl, rfl⟩
theorem nil_write (w : World) (x : Int) (A : Option Addr) (n c : Nat) : Calls Try.prog 15 #[.pointer none, .int .i64 x, .slice A n c] w fun e w' => e = .returned (.int .i64 1) ∧ Below w.heap.size w w' := by
  go_enter Try.func15, Try.ntmps15
  go_wp2_with (go_at_call 36; refine (none_nil _).mono ?_; rintro e w' ⟨rfl, rfl⟩)
  go_ret
  exact ⟨rfl, (Below.refl _ _).alloc (Nat.le_refl _) _⟩
theorem nil_flush (w : World) : Calls Try.prog 16 #[.pointer none] w fun e w' => e = .returned (.int .i64 1) ∧ Below w.heap.size w w' := by
  go_enter Try.func16, Try.ntmps16
  go_wp2_with (go_at_call 36; refine (none_nil _).mono ?_; rintro e w' ⟨rfl, rfl⟩)
  go_ret
  exact ⟨rfl, (Below.refl _ _).alloc (Nat.le_refl _) _⟩
theorem nil_copy (w : World) : Calls Try.prog 34 #[.pointer none] w fun e w' => e = .returned (.pointer none) ∧ w = w' := by
  go_enter Try.func34, Try.ntmps34
  go_wp2_with (go_at_call 36; refine (none_nil _).mono ?_; rintro e w' ⟨rfl, rfl⟩)
  go_ret
  exact ⟨rfl, rfl⟩

/-! ### what makes one -/
def Dk.of (b : List UInt8) : Dk := ⟨b, b, [], 0, -1⟩
/-- A disk that was made, all of it new. -/
def Made (w : World) (d : Dk) (e : Ending) (w' : World) : Prop := ∃ p fp, e = .returned (.tuple #[.pointer (some ⟨p, 0, none⟩), .int .i64 0]) ∧ Disk w' fp (fun k => w.heap.size ≤ k ∧ ¬ fp k) p d ∧ (∀ k, fp k → w.heap.size ≤ k) ∧ Below w.heap.size w w'
theorem of_bad (w : World) (A : Option Addr) (n c : Nat) (hn : n < 1 ∨ 1048576 < n) : Calls Try.prog 28 #[.slice A n c] w fun e w' => e = .returned (.tuple #[.pointer none, .int .i64 2]) ∧ w = w' := by
  rcases hn with hn | hn
  · go_enter Try.func28, Try.ntmps28
    go_wp2
    go_ret2
    exact ⟨rfl, rfl⟩
  · go_enter Try.func28, Try.ntmps28
    go_wp2
    go_ret2
    exact ⟨rfl, rfl⟩
theorem made_end {w w1 w2 : World} {b : List UInt8} {A A2 : Option Addr} {c c2 : Nat} (h1 : 1 ≤ b.length) (h2 : b.length ≤ 1048576) (hb1 : Below w.heap.size w w1) (hown : w1.ownsRow w.heap.size 5 1 (.slice A b.length c) b.length (bv b))
    (hb2 : Below w1.heap.size w1 w2) (hown2 : w2.ownsRow w1.heap.size 5 1 (.slice A2 b.length c2) b.length (bv b)) :
    ∃ p fp, p = w2.heap.size ∧ Disk (w2.alloc (.cells #[.slice A b.length c, .slice A2 b.length c2, .slice none 0 0, .int .i64 0, .int .i64 (-1)] 75)) fp (fun k => w.heap.size ≤ k ∧ ¬ fp k) p (Dk.of b) ∧ (∀ k, fp k → w.heap.size ≤ k) ∧
      Below w.heap.size w (w2.alloc (.cells #[.slice A b.length c, .slice A2 b.length c2, .slice none 0 0, .int .i64 0, .int .i64 (-1)] 75)) := by
  obtain ⟨nb, cc, he, hnb0, hnbl⟩ : ∃ nb cc, Value.slice A b.length c = .slice (some ⟨nb, 0, none⟩) b.length cc ∧ w.heap.size ≤ nb ∧ nb < w1.heap.size := by
    exact own_pos hown (by omega)
  injection he with he1 _ he3
  subst he1; subst he3
  have hs1 := hb1.size
  have hs2 := hb2.size
  have hB : Below w.heap.size w (w2.alloc (.cells #[.slice (some ⟨nb, 0, none⟩) b.length c, .slice A2 b.length c2, .slice none 0 0, .int .i64 0, .int .i64 (-1)] 75)) := (hb1.trans (hb2.mono hs1)).alloc (by omega) _
  refine ⟨w2.heap.size, fun k => k = w2.heap.size ∨ k = nb, rfl, ⟨nb, c, A2, c2, none, 0, [], ?_⟩, fun k hk => by rcases hk with rfl | rfl <;> omega, hB⟩
  refine { blk := heap_alloc_new _ _, now := ?_, lasts := ?_, waits := World.ownsRow_nil _ _ _ _, wrs := Rws.nil _ _, fpp := .inl rfl, fpn := .inr rfl, fpw := fun k hk => by simp [Value.ownBlock] at hk, fps := ?_, dis := fun k hk => hk.2, pos := h1, big := h2, same := rfl, fits := fun x hx => by cases hx }
  · refine (own_move (own_base hown (Nat.zero_le _)) (fun k hk hlt => ?_))
    exact (Below.heap_alloc _ _ _ (by omega)).trans (hb2.block k hlt)
  · obtain ⟨A3, c3, he, hs⟩ := Sl.of_own (ok := fun k => w1.heap.size ≤ k ∧ k < w2.heap.size) hown2 (fun k hk hlt => ⟨(hown2.lt k hk).1, hlt⟩)
    injection he with he1 he2 he3
    subst he1; subst he3
    exact Sl.mono (Sl.move hs (Mv.alloc _ _ _)) (fun k _ ho => ⟨by omega, fun hf => by rcases hf with hf | hf <;> omega⟩)
  · intro k hk
    have e : (w2.alloc (.cells #[.slice (some ⟨nb, 0, none⟩) b.length c, .slice A2 b.length c2, .slice none 0 0, .int .i64 0, .int .i64 (-1)] 75)).heap.size = w2.heap.size + 1 := by simp
    rw [e]
    rcases hk with rfl | rfl <;> omega
theorem of_ok {ok : Nat → Prop} (w : World) (A : Option Addr) (n c : Nat) (b : List UInt8) (h : By w ok A n c b) (h1 : 1 ≤ n) (h2 : n ≤ 1048576) : Calls Try.prog 28 #[.slice A n c] w (Made w (Dk.of b)) := by
  have hlen : b.length = n := by have := h.1; simpa [bv] using this
  subst hlen
  go_enter Try.func28, Try.ntmps28
  go_wp2_with fail
  refine (cloneB _ A _ c b h (by omega)).mono ?_
  rintro e w1 ⟨A1, c1, rfl, hown1, hb1⟩
  have h' : By w1 ok A b.length c b := Sl.move h (Mv.of_below hb1 _)
  go_wp2_with fail
  refine (cloneB _ A _ c b h' (by omega)).mono ?_
  rintro e w2 ⟨A2, c2, rfl, hown2, hb2⟩
  go_wp2
  go_ret2
  obtain ⟨p, fp, rfl, hD, hfp, hB⟩ := made_end h1 h2 hb1 hown1 hb2 hown2
  exact ⟨_, fp, rfl, hD, hfp, hB⟩
theorem new_bad (w : World) (n : Int) (hn : n < 1 ∨ 1048576 < n) : Calls Try.prog 13 #[.int .i64 n] w fun e w' => e = .returned (.tuple #[.pointer none, .int .i64 2]) ∧ w = w' := by
  rcases hn with hn | hn
  · go_enter Try.func13, Try.ntmps13
    go_wp2
    go_ret2
    exact ⟨rfl, rfl⟩
  · go_enter Try.func13, Try.ntmps13
    go_wp2
    go_ret2
    exact ⟨rfl, rfl⟩
theorem run_makeB (n : Nat) (hn : n ≤ 281474976710656) (W : World) : (Instr.makeSlice 38 (.int .i64 (n : Int)) (.int .i64 (n : Int))).run Try.prog W = .ok (.slice (some ⟨W.heap.size, 0, none⟩) n n) (W.alloc (.cells (List.replicate n (Value.int .u8 0)).toArray 5)) := by
  obtain ⟨i, hi, hzz⟩ := Option.map_eq_some_iff.1 info_u8
  simp only [Prod.mk.injEq] at hzz
  obtain ⟨hz0, hz1, hz2⟩ := hzz
  have := run_make (P := Try.prog) W 38 5 i (.int .u8 0) Try.underlying38 hi hz0 .i64 .i64 n n (by omega) (by omega) (by rw [hz2]; omega) (by omega)
  rw [this]
  simp only [Int.toNat_natCast, hz1, Nat.mul_one]
  have e : madeCells (Value.int .u8 0).cells n = (List.replicate n (Value.int .u8 0)).toArray := by
    apply Array.toList_inj.1
    exact toList_madeCells_one _ n
  rw [e]
theorem new_ok (w : World) (n : Nat) (h1 : 1 ≤ n) (h2 : n ≤ 1048576) : Calls Try.prog 13 #[.int .i64 (n : Int)] w (Made w (Dk.of (List.replicate n 0))) := by
  have hmk := run_makeB n (by omega)
  have e : (List.replicate n (Value.int .u8 0)) = bv (List.replicate n 0) := by simp [bv]
  have hb : Below w.heap.size w (w.alloc (.cells (List.replicate n (Value.int .u8 0)).toArray 5)) := (Below.refl _ _).alloc (Nat.le_refl _) _
  have hl : By (w.alloc (.cells (List.replicate n (Value.int .u8 0)).toArray 5)) Any (some ⟨w.heap.size, 0, none⟩) n n (List.replicate n 0) := by
    have := Sl.lit w 5 1 (List.replicate n (Value.int .u8 0)).toArray n (by simp [maxLen]; omega) (by simp)
    rw [List.toList_toArray, e] at this
    rw [e]; exact this
  clear e
  go_enter Try.func13, Try.ntmps13
  go_wp2_with fail
  refine (of_ok _ _ n n _ hl h1 h2).mono ?_
  rintro e w1 ⟨p, fp, rfl, hD, hfp, hB⟩
  go_wp2
  go_ret2
  refine ⟨p, fp, rfl, hD.mono (fun k _ ho => ⟨by have := ho.1; simp at this; omega, ho.2⟩) (fun k hk => hk.2), fun k hk => by have := hfp k hk; simp at this; omega, hb.trans (hB.mono (by simp))⟩
end Go.Proofs.Ytmajfiljajbipaa
