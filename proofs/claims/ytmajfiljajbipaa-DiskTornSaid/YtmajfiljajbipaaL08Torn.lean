/- DiskTorn: the walk. -/
import Derived.Test.YtmajfiljajbipaaIs08
import Derived.Test.YtmajfiljajbipaaRef6
set_option linter.unusedVariables false
set_option linter.unusedSimpArgs false
namespace Go.Proofs.Ytmajfiljajbipaa
open Go.RowKit

theorem wr_waits (d : Dk) (x : Int) (b : List UInt8) : (d.wr x b).1.waits.length ≤ d.waits.length + 1 := by
  unfold Dk.wr
  split
  · split
    · exact Nat.le_succ _
    · simp [Dk.write]
  · exact Nat.le_succ _
theorem RefV.kp {w w1 : World} {T M : Nat → Prop} {v : Value} {d : Dk} (h : RefV w T v d) (hk : Kp M w w1) (hM : ∀ k, k < w.heap.size → T k → ¬ M k) : RefV w1 T v d := h.move (Mv.of_kp hk hM)

set_option maxHeartbeats 1000000 in
theorem torn_walk {ok1 ok2 : Nat → Prop} (w : World) (A : Option Addr) (n c : Nat) (was : List UInt8) (x : Int) (B : Option Addr) (m bc : Nat) (b : List UInt8) (keep torn : Int) (h1 : By w ok1 A n c was) (h2 : By w ok2 B m bc b) :
    Calls Try.prog 7 #[.slice A n c, .int .i64 x, .slice B m bc, .agg #[.int .i64 keep, .int .i64 torn]] w fun e w' => e = .returned (.bool true) ∧ Below w.heap.size w w' := by
  have hl1 : was.length = n := by have := h1.1; simpa [bv] using this
  have hb0 : Below w.heap.size w (w.alloc (.cells #[.int .i64 keep, .int .i64 torn] 36)) := (Below.refl _ _).alloc (Nat.le_refl _) _
  have LW := works_ok (w.alloc (.cells #[.int .i64 keep, .int .i64 torn] 36))
  have hcase : n < 1 ∨ (1 ≤ n ∧ 300 < n) ∨ (1 ≤ n ∧ n ≤ 300 ∧ 300 < m) ∨ (1 ≤ n ∧ n ≤ 300 ∧ m ≤ 300) := by omega
  rcases hcase with g1 | ⟨g1, g2⟩ | ⟨g1, g2, g3⟩ | ⟨g1, g2, g3⟩
  · have g1' : (n : Int) < 1 := by omega
    go_enter Try.func7, Try.ntmps7
    go_wp2_with (go_at_call 12; refine LW.mono ?_; rintro e w1 ⟨rfl, hb⟩)
    go_ret
    exact ⟨rfl, hb0.trans (hb.mono hb0.size)⟩
  · have g1' : ¬ (n : Int) < 1 := by omega
    have g2' : (300 : Int) < n := by omega
    go_enter Try.func7, Try.ntmps7
    go_wp2_with (go_at_call 12; refine LW.mono ?_; rintro e w1 ⟨rfl, hb⟩)
    go_ret
    exact ⟨rfl, hb0.trans (hb.mono hb0.size)⟩
  · have g1' : ¬ (n : Int) < 1 := by omega
    have g2' : ¬ (300 : Int) < n := by omega
    have g3' : (300 : Int) < m := by omega
    go_enter Try.func7, Try.ntmps7
    go_wp2_with (go_at_call 12; refine LW.mono ?_; rintro e w1 ⟨rfl, hb⟩)
    go_ret
    exact ⟨rfl, hb0.trans (hb.mono hb0.size)⟩
  · clear LW
    have g1' : ¬ (n : Int) < 1 := by omega
    have g2' : ¬ (300 : Int) < n := by omega
    have g3' : ¬ (300 : Int) < m := by omega
    have c0 : (w.alloc (.cells #[.int .i64 keep, .int .i64 torn] 36)).cell? ⟨w.heap.size, 0, none⟩ = some (.int .i64 keep) := by simp [go_sem]
    have c1 : (w.alloc (.cells #[.int .i64 keep, .int .i64 torn] 36)).cell? ⟨w.heap.size, 1, none⟩ = some (.int .i64 torn) := by simp [go_sem]
    have hsz0 : (w.alloc (.cells #[.int .i64 keep, .int .i64 torn] 36)).heap.size = w.heap.size + 1 := by simp
    go_enter Try.func7, Try.ntmps7
    go_wp2_with fail
    refine (of_S _ A n c was (Sl.move h1 (Mv.of_below hb0 _)) g1 (by omega)).mono ?_
    rintro e w1 ⟨p, S, rfl, hd1, hS1, hb1⟩
    rw [hsz0] at hS1
    have hSl := hd1.1
    have hbw1 := hb0.trans (hb1.mono hb0.size)
    have hs1 : w.heap.size + 1 ≤ w1.heap.size := by have := hb1.size; omega
    have c0 := (hb1.cell (p := ⟨w.heap.size, 0, none⟩) (by simp)).trans c0
    have c1 := (hb1.cell (p := ⟨w.heap.size, 1, none⟩) (by simp)).trans c1
    go_wp2_with fail
    refine (of_ref _ A n c was (Sl.move h1 (Mv.of_below hbw1 _)) g1 (by omega)).mono ?_
    rintro e w2 ⟨hb2, v, rfl, hr2⟩
    obtain ⟨LA, lc, WA, wc, wcs, rfl, k1, k2, k3⟩ := id hr2
    have hbw2 := hbw1.trans (hb2.mono hbw1.size)
    have hd2 := hd1.below hb2
    have c0 := (hb2.cell (p := ⟨w.heap.size, 0, none⟩) (by simp; omega)).trans c0
    have c1 := (hb2.cell (p := ⟨w.heap.size, 1, none⟩) (by simp; omega)).trans c1
    have hs2 := hb2.size
    clear k1 k2 k3
    go_wp2_with fail
    have hbA := (Below.refl w2.heap.size w2).alloc (Nat.le_refl _) (.cells #[.slice LA (Dk.of was).lasts.length lc, .slice WA (Dk.of was).waits.length wc, .int .i64 (Dk.of was).steps, .int .i64 (Dk.of was).armed] 48)
    have hbwA := hbw2.trans (hbA.mono hbw2.size)
    have CW := write_ref _ _ (Dk.of was) (hr2.below hbA) rfl (by simp only [Dk.of]; omega) (by simp [Dk.of]) x B m bc b (Sl.move h2 (Mv.of_below hbwA _))
    obtain ⟨d1, hd1e⟩ : ∃ d1, d1 = ((Dk.of was).wr x b).1 := ⟨_, rfl⟩
    obtain ⟨e1, he1⟩ : ∃ e1, e1 = ((Dk.of was).wr x b).2 := ⟨_, rfl⟩
    have hw1 : d1.waits.length ≤ 1 := by rw [hd1e]; exact wr_waits _ _ _
    rw [← hd1e, ← he1] at CW
    have HD := Lib.hid hd1e; clear hd1e
    have HE := Lib.hid he1; clear he1
    refine CW.mono ?_
    rintro e w3 ⟨hb3, v3, rfl, hr3⟩
    clear CW
    have hb3' := hbA.trans (hb3.mono hbA.size)
    have hbw3 := hbw2.trans (hb3'.mono hbw2.size)
    have hs3 := hb3'.size
    have c0 := (hb3'.cell (p := ⟨w.heap.size, 0, none⟩) (by simp; omega)).trans c0
    have c1 := (hb3'.cell (p := ⟨w.heap.size, 1, none⟩) (by simp; omega)).trans c1
    have hd3 := hd2.below hb3'
    obtain ⟨LB, lc3, WB, wc3, wcs3, rfl, _, _, _⟩ := id hr3
    clear hbA hbwA hr2 hb3 hd2 hd1
    go_wp2_with fail
    have hbB := (Below.refl w3.heap.size w3).alloc (Nat.le_refl _) (.cells #[.slice LB d1.lasts.length lc3, .slice WB d1.waits.length wc3, .int .i64 d1.steps, .int .i64 d1.armed] 48)
    have hbwB := hbw3.trans (hbB.mono hbw3.size)
    have B3 := Box4.new w3 (.slice LB d1.lasts.length lc3) (.slice WB d1.waits.length wc3) (.int .i64 d1.steps) (.int .i64 d1.armed)
    have CW := write_S (hd3.below hbB) x B m bc b (Sl.move h2 (Mv.of_below hbwB _)) (by simp [Dk.of])
    rw [← HD.out, ← HE.out] at CW
    refine CW.mono ?_
    rintro e w4 ⟨rfl, S4, hd4, hk4, hS4⟩
    clear CW
    have hr4 := (hr3.below hbB).kp hk4 (fun k _ ht hs => by have := hSl k hs; rcases ht with ht | ht <;> ((try simp at ht); omega))
    have B4 := B3.keep hk4 (fun hs => by have := hSl _ hs; omega)
    have c0 := hk4.cell ((hbB.cell (p := ⟨w.heap.size, 0, none⟩) (by simp; omega)).trans c0) (fun hs => by have : w.heap.size + 1 ≤ w.heap.size := hS1 _ hs; omega)
    have c1 := hk4.cell ((hbB.cell (p := ⟨w.heap.size, 1, none⟩) (by simp; omega)).trans c1) (fun hs => by have : w.heap.size + 1 ≤ w.heap.size := hS1 _ hs; omega)
    have hbw4 := chg_below hbwB hk4 hbwB.size (fun k hk => by have := hS1 k hk; omega)
    obtain ⟨hp4, hbig4, hsame4, hfit4⟩ := hd4.props
    have hs4 : w3.heap.size + 1 ≤ w4.heap.size := by have := hk4.size; simpa using this
    go_wp2_with fail
    refine (crash_S hd4 keep torn (by omega)).mono ?_
    rintro e w5 ⟨q, S5, rfl, hd5, hS5, hb5⟩
    have hr5 := hr4.below hb5
    obtain ⟨q0, q1, q2, q3, qf⟩ := (B4.below hb5).cells
    have c0 := (hb5.cell (p := ⟨w.heap.size, 0, none⟩) (by simp; omega)).trans c0
    have c1 := (hb5.cell (p := ⟨w.heap.size, 1, none⟩) (by simp; omega)).trans c1
    have hbw5 := hbw4.trans (hb5.mono hbw4.size)
    have CR := crash_ref w5 _ d1 hr5 (by omega) (by omega) (by omega) (by rw [hsame4]; exact hfit4) keep torn
    have HS := Lib.hid hsame4; clear hsame4
    go_wp2_with (first
      | (go_at_call 17; refine (num_any _ _).mono ?_; rintro e w' ⟨rfl, rfl⟩)
      | (go_at_call 25; refine CR.mono ?_; rintro e w6 ⟨hb6, v6, rfl, hr6⟩)
      | (go_at_call 26; refine (is_true w6 q v6 _ (hd5.below hb6) hr6 (by simp [Dk.crash, Dk.of]) rfl).mono ?_; rintro e w7 ⟨rfl, hb7⟩)
      | (go_at_call 12; refine (works_ok w7).mono ?_; rintro e w8 ⟨rfl, hb8⟩))
    go_ret
    have hbw6 := hbw5.trans (hb6.mono hbw5.size)
    have hbw7 := hbw6.trans (hb7.mono hbw6.size)
    exact ⟨rfl, hbw7.trans (hb8.mono hbw7.size)⟩
end Go.Proofs.Ytmajfiljajbipaa
