/- DiskArms: the walk. -/
import Derived.Test.YtmajfiljajbipaaDsk8
set_option linter.unusedVariables false
namespace Go.Proofs.Ytmajfiljajbipaa
open Go.RowKit

def Arm (d : Dk) (n : Int) (i : Nat) : Prop := d.now.length = 10 ∧ d.steps = (if n < 0 then (i : Int) else min n i) ∧ d.armed = (if n < 0 then -1 else n - min n i) ∧ d.waits.length ≤ i
theorem wrap_small (x : Int) (h1 : -9223372036854775808 ≤ x) (h2 : x ≤ 9223372036854775807) : wrap64 x = x := by
  unfold wrap64; omega
theorem arm_tick {d : Dk} {n : Int} {i : Nat} (h : Arm d n i) (hn : n ≤ 9223372036854775807) (hi : i ≤ 60) (ha : d.armed ≠ 0) : d.tick.steps = (if n < 0 then ((i + 1 : Nat) : Int) else min n (i + 1 : Nat)) ∧ d.tick.armed = (if n < 0 then -1 else n - min n (i + 1 : Nat)) := by
  obtain ⟨h1, h2, h3, h4⟩ := h
  simp only [Dk.tick]
  rw [h3] at ha ⊢
  rw [h2]
  by_cases hn0 : n < 0
  · simp only [hn0, if_true]
    refine ⟨by rw [wrap_small] <;> omega, by simp⟩
  · simp only [hn0, if_false] at ha ⊢
    rw [if_pos (by omega)]
    refine ⟨by rw [wrap_small] <;> omega, by rw [wrap_small] <;> omega⟩
theorem arm_wr {d : Dk} {n : Int} {i : Nat} (h : Arm d n i) (hn : n ≤ 9223372036854775807) (hi : i ≤ 60) : (d.wr 0 [1]).2 = (if 0 ≤ n ∧ n ≤ i then 180 else 0) ∧ Arm (d.wr 0 [1]).1 n (i + 1) := by
  have h' := h
  obtain ⟨h1, h2, h3, h4⟩ := h
  unfold Dk.wr
  rw [if_pos (by simp [h1])]
  by_cases ha : d.armed = 0
  · rw [if_pos ha, if_pos (by rw [ha] at h3; split at h3 <;> omega)]
    refine ⟨rfl, h1, ?_, ?_, Nat.le_succ_of_le h4⟩
    · rw [ha] at h3; rw [h2]; split at h3 <;> simp_all <;> omega
    · rw [ha] at h3; rw [ha]; split at h3 <;> simp_all <;> omega
  · rw [if_neg ha, if_neg (by rw [h3] at ha; split at ha <;> omega)]
    obtain ⟨t1, t2⟩ := arm_tick h' hn hi ha
    refine ⟨rfl, ?_, t1, t2, ?_⟩
    · show (lay d.now _ _).length = 10
      rw [lay_length _ _ _ (by simp [h1]), h1]
    · show (d.waits ++ [_]).length ≤ _
      simp; exact h4
theorem arm_fl {d : Dk} {n : Int} {i : Nat} (h : Arm d n i) (hn : n ≤ 9223372036854775807) (hi : i ≤ 60) : d.fl.2 = (if 0 ≤ n ∧ n ≤ i then 180 else 0) ∧ Arm d.fl.1 n (i + 1) := by
  have h' := h
  obtain ⟨h1, h2, h3, h4⟩ := h
  unfold Dk.fl
  by_cases ha : d.armed = 0
  · rw [if_pos ha, if_pos (by rw [ha] at h3; split at h3 <;> omega)]
    refine ⟨rfl, h1, ?_, ?_, Nat.le_succ_of_le h4⟩
    · rw [ha] at h3; rw [h2]; split at h3 <;> simp_all <;> omega
    · rw [ha] at h3; rw [ha]; split at h3 <;> simp_all <;> omega
  · rw [if_neg ha, if_neg (by rw [h3] at ha; split at ha <;> omega)]
    obtain ⟨t1, t2⟩ := arm_tick h' hn hi ha
    exact ⟨rfl, h1, t1, t2, by simp⟩

theorem lit1 (w : World) (a : UInt8) (x : Int) (ha : (a.toNat : Int) = x) : By (w.alloc (.cells #[.int .u8 x] 5)) Any (some ⟨w.heap.size, 0, none⟩) 1 1 [a] := by
  subst ha
  exact Sl.lit w _ 1 #[.int .u8 (a.toNat : Int)] 1 (by simp [maxLen]) rfl

set_option maxHeartbeats 1000000 in
theorem arms_walk (w : World) (n : Int) (A : Option Addr) (c : Nat) (bs : List Bool) (hn : n ≤ 9223372036854775807) (hs : Sl w Any 1 A bs.length c (bs.map Value.bool)) :
    Calls Try.prog 3 #[.int .i64 n, .slice A bs.length c] w fun e w' => e = .returned (.bool true) ∧ Below w.heap.size w w' := by
  by_cases hl : 60 < bs.length
  · have hl' : (60 : Int) < bs.length := by omega
    have L := works_ok w
    go_enter Try.func3, Try.ntmps3
    go_wp2_with (go_at_call 12; refine L.mono ?_; rintro e w1 ⟨rfl, hb⟩)
    go_ret
    exact ⟨rfl, hb⟩
  · have hl' : ¬ (60 : Int) < bs.length := by omega
    go_enter Try.func3, Try.ntmps3
    go_wp2_with fail
    refine (new_S w 10 (by omega) (by omega)).mono ?_
    rintro e w1 ⟨p, S1, rfl, hd1, hS1, hb1⟩
    go_wp2_with fail
    refine (arm_S hd1 n).mono ?_
    rintro e w2 ⟨rfl, S2, hd2, hk2, hS2⟩
    have hb2 := chg_below hb1 hk2 hb1.size hS1
    replace hS2 := from_chg hS1 hb1.size hS2
    have ha2 : Arm ((Dk.of (List.replicate 10 0)).arm n) n 0 := by
      refine ⟨rfl, ?_, ?_, Nat.le_refl _⟩
      · simp [Dk.arm, Dk.of]; omega
      · simp only [Dk.arm]; split <;> omega
    obtain ⟨d2, hd2e⟩ : ∃ d2, d2 = (Dk.of (List.replicate 10 0)).arm n := ⟨_, rfl⟩
    rw [← hd2e] at hd2 ha2
    clear hd1 hk2 hb1 hS1 hd2e
    go_wp2_with fail
    go_loopw [8] (fun i wr => ∃ k : Nat, k ≤ bs.length ∧ i = .int .i64 k ∧ Below w.heap.size w wr ∧ ∃ d S, DiskS wr S p d ∧ (∀ k, S k → w.heap.size ≤ k) ∧ Arm d n k)
      (fun i _ => bs.length - (intOf i).toNat)
    case atStart => exact ⟨0, Nat.zero_le _, rfl, hb2, d2, S2, hd2, hS2, ha2⟩
    case round =>
      obtain ⟨k, hk, rfl, hb, d, S, hd, hS, ha⟩ := hrel
      by_cases hlt : k < bs.length
      · have hlt' : (k : Int) < bs.length := by omega
        obtain ⟨a, rfl, _, hal, hcs⟩ := hs.at_ (j := k) (by omega)
        have q1 := (hb.cell (p := a.add k) (by rw [add_block]; exact hal)).trans (hcs k (.bool bs[k]) (by simp [List.getElem?_eq_getElem hlt]))
        have C1 := write_S (hd.below ((Below.refl _ wr).alloc (Nat.le_refl _) (.cells #[.int .u8 1] 5))) 0 _ 1 1 [1] (lit1 wr 1 1 rfl) (by have := ha.2.2.2; omega)
        have C2 := flush_S hd
        have F1 := arm_wr ha hn (by omega)
        have F2 := arm_fl ha hn (by omega)
        rw [F1.1] at C1
        rw [F2.1] at C2
        have hcase : (n < 0 ∧ ¬ (0 ≤ n ∧ n ≤ k)) ∨ (0 ≤ n ∧ n ≤ (k : Int) ∧ (0 ≤ n ∧ n ≤ k)) ∨ (0 ≤ n ∧ (k : Int) < n ∧ ¬ (0 ≤ n ∧ n ≤ k)) := by omega
        have HF1 := Lib.hid F1.2
        have HF2 := Lib.hid F2.2
        clear F1 F2
        cases hbk : bs[k] with
        | true =>
          rw [hbk] at q1
          rcases hcase with ⟨g1, g2⟩ | ⟨g1, g2, g3⟩ | ⟨g1, g2, g3⟩
          · rw [if_neg g2] at C1
            clear C2 g2
            go_wp2_with (first | (go_at_call 17; refine (num_any _ _).mono ?_; rintro e w' ⟨rfl, rfl⟩) | (go_at_call 15; refine C1.mono ?_; clear C1; rintro e w3 ⟨rfl, S3, hd3, hk3, hS3⟩))
            have hba := hb.alloc hb.size (.cells #[.int .u8 1] 5)
            exact ⟨⟨k + 1, hlt, by simp, chg_below hba hk3 hba.size hS, _, S3, hd3, from_chg hS hba.size hS3, HF1.out⟩, by simp [intOf]; omega⟩
          · rw [if_pos g3] at C1
            clear C2 g3
            go_wp2_with (first | (go_at_call 17; refine (num_any _ _).mono ?_; rintro e w' ⟨rfl, rfl⟩) | (go_at_call 15; refine C1.mono ?_; clear C1; rintro e w3 ⟨rfl, S3, hd3, hk3, hS3⟩))
            have hba := hb.alloc hb.size (.cells #[.int .u8 1] 5)
            exact ⟨⟨k + 1, hlt, by simp, chg_below hba hk3 hba.size hS, _, S3, hd3, from_chg hS hba.size hS3, HF1.out⟩, by simp [intOf]; omega⟩
          · rw [if_neg g3] at C1
            clear C2 g3
            go_wp2_with (first | (go_at_call 17; refine (num_any _ _).mono ?_; rintro e w' ⟨rfl, rfl⟩) | (go_at_call 15; refine C1.mono ?_; clear C1; rintro e w3 ⟨rfl, S3, hd3, hk3, hS3⟩))
            have hba := hb.alloc hb.size (.cells #[.int .u8 1] 5)
            exact ⟨⟨k + 1, hlt, by simp, chg_below hba hk3 hba.size hS, _, S3, hd3, from_chg hS hba.size hS3, HF1.out⟩, by simp [intOf]; omega⟩
        | false =>
          rw [hbk] at q1
          rcases hcase with ⟨g1, g2⟩ | ⟨g1, g2, g3⟩ | ⟨g1, g2, g3⟩
          · rw [if_neg g2] at C2
            clear C1 g2
            go_wp2_with (first | (go_at_call 17; refine (num_any _ _).mono ?_; rintro e w' ⟨rfl, rfl⟩) | (go_at_call 16; refine C2.mono ?_; clear C2; rintro e w3 ⟨rfl, S3, hd3, hk3, hS3⟩))
            exact ⟨⟨k + 1, hlt, by simp, chg_below hb hk3 hb.size hS, _, S3, hd3, from_chg hS hb.size hS3, HF2.out⟩, by simp [intOf]; omega⟩
          · rw [if_pos g3] at C2
            clear C1 g3
            go_wp2_with (first | (go_at_call 17; refine (num_any _ _).mono ?_; rintro e w' ⟨rfl, rfl⟩) | (go_at_call 16; refine C2.mono ?_; clear C2; rintro e w3 ⟨rfl, S3, hd3, hk3, hS3⟩))
            exact ⟨⟨k + 1, hlt, by simp, chg_below hb hk3 hb.size hS, _, S3, hd3, from_chg hS hb.size hS3, HF2.out⟩, by simp [intOf]; omega⟩
          · rw [if_neg g3] at C2
            clear C1 g3
            go_wp2_with (first | (go_at_call 17; refine (num_any _ _).mono ?_; rintro e w' ⟨rfl, rfl⟩) | (go_at_call 16; refine C2.mono ?_; clear C2; rintro e w3 ⟨rfl, S3, hd3, hk3, hS3⟩))
            exact ⟨⟨k + 1, hlt, by simp, chg_below hb hk3 hb.size hS, _, S3, hd3, from_chg hS hb.size hS3, HF2.out⟩, by simp [intOf]; omega⟩
      · have hlt' : ¬ (k : Int) < bs.length := by omega
        obtain rfl : k = bs.length := by omega
        obtain ⟨fd, hfd, hdd⟩ := hd.2
        have LS := steps_disk hdd
        have LW := works_ok wr
        have hcase : (n < 0 ∧ d.steps = bs.length) ∨ (0 ≤ n ∧ n ≤ (bs.length : Int) ∧ d.steps = n) ∨ (0 ≤ n ∧ (bs.length : Int) < n ∧ d.steps = bs.length) := by
          have := ha.2.1
          split at this <;> omega
        rcases hcase with ⟨g1, g2⟩ | ⟨g1, g2, g3⟩ | ⟨g1, g2, g3⟩
        · rw [g2] at LS
          clear g2 hdd hd ha
          go_wp2_with (first | (go_at_call 17; refine (num_any _ _).mono ?_; rintro e w' ⟨rfl, rfl⟩) | (go_at_call 18; refine LS.mono ?_; rintro e w3 ⟨rfl, rfl⟩) | (go_at_call 12; refine LW.mono ?_; rintro e w3 ⟨rfl, hb3⟩))
          go_ret
          exact ⟨rfl, hb.trans (hb3.mono hb.size)⟩
        · rw [g3] at LS
          clear g3 hdd hd ha
          go_wp2_with (first | (go_at_call 17; refine (num_any _ _).mono ?_; rintro e w' ⟨rfl, rfl⟩) | (go_at_call 18; refine LS.mono ?_; rintro e w3 ⟨rfl, rfl⟩) | (go_at_call 12; refine LW.mono ?_; rintro e w3 ⟨rfl, hb3⟩))
          go_ret
          exact ⟨rfl, hb.trans (hb3.mono hb.size)⟩
        · rw [g3] at LS
          clear g3 hdd hd ha
          go_wp2_with (first | (go_at_call 17; refine (num_any _ _).mono ?_; rintro e w' ⟨rfl, rfl⟩) | (go_at_call 18; refine LS.mono ?_; rintro e w3 ⟨rfl, rfl⟩) | (go_at_call 12; refine LW.mono ?_; rintro e w3 ⟨rfl, hb3⟩))
          go_ret
          exact ⟨rfl, hb.trans (hb3.mono hb.size)⟩
end Go.Proofs.Ytmajfiljajbipaa
