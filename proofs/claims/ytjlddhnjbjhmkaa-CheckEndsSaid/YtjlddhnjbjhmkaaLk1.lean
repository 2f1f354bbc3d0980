/- Layer 6: which extensions may run. -/
import Derived.Test.YtjlddhnjbjhmkaaRk1
import Derived.Test.YtjlddhnjbjhmkaaRs1
import Derived.BigQuiet
set_option linter.unusedVariables false
set_option linter.unusedSimpArgs false
namespace Go.Proofs.Ytjlddhnjbjhmkaa
open Go.RowKit

theorem KsB.blw {W W1 : World} {g N : Nat} {K : Nat → Kn} (h : KsB W g N K) (hb : Below W.heap.size W W1) : KsB W1 g N K := Blk.below h hb
set_option maxRecDepth 100000 in
set_option maxHeartbeats 2000000 in
theorem ckn_ok (w : World) (ctx : Int) (A : Option Addr) (N c : Nat) (L : List Value) (K : Nat → Kn) (hs : Sl w Any 5 A N c L) (hN : N ≤ 300)
    (hch : ∀ W, Sl W Any 5 A N c L → Calls Try.prog 14 #[.agg #[.int .i64 ctx, .slice A N c]] W fun e w' => e = .returned (.int .i64 (codeK (.ok K) : Int)) ∧ Below W.heap.size W w')
    (hk1 : ∀ W, Sl W Any 5 A N c L → Calls Try.prog 12 #[.agg #[.int .i64 ctx, .slice A N c]] W fun e w' => (∃ v, e = .returned v ∧ KnR W w' N (.ok K) v) ∧ Below W.heap.size W w')
    (hk2 : ∀ W, Sl W Any 5 A N c L → Calls Try.prog 13 #[.agg #[.int .i64 ctx, .slice A N c]] W fun e w' => (∃ v, e = .returned v ∧ KnR W w' N (.ok K) v) ∧ Below W.heap.size W w') :
    Calls Try.prog 3 #[.agg #[.int .i64 ctx, .slice A N c]] w fun e w' => e = .returned (.bool true) ∧ Below w.heap.size w w' := by
  have HS := Lib.hid hs; have HKN := Lib.hid lawknown_ok
  have HCH : Hid (∀ W, Sl W Any 5 A N c L → Calls Try.prog 14 #[.agg #[.int .i64 ctx, .slice A N c]] W fun e w' => e = .returned (.int .i64 (codeK (.ok K) : Int)) ∧ Below W.heap.size W w') := Lib.hid hch
  have HK1 : Hid (∀ W, Sl W Any 5 A N c L → Calls Try.prog 12 #[.agg #[.int .i64 ctx, .slice A N c]] W fun e w' => (∃ v, e = .returned v ∧ KnR W w' N (.ok K) v) ∧ Below W.heap.size W w') := Lib.hid hk1
  have HK2 : Hid (∀ W, Sl W Any 5 A N c L → Calls Try.prog 13 #[.agg #[.int .i64 ctx, .slice A N c]] W fun e w' => (∃ v, e = .returned v ∧ KnR W w' N (.ok K) v) ∧ Below W.heap.size W w') := Lib.hid hk2
  clear hs hch hk1 hk2
  have h300 : ¬ (300 : Int) < (N : Int) := by omega
  go_enter Try.func3, Try.ntmps3
  go_upto_region 1 with fail
  obtain ⟨W1, hW1⟩ : ∃ W1, W1 = w.alloc (.cells #[.int .i64 ctx, .slice A N c] 24) := ⟨_, rfl⟩
  have hb1 : Below w.heap.size w W1 := by rw [hW1]; exact (Below.refl _ _).alloc (Nat.le_refl _) _
  have hp1 : Blk W1 w.heap.size 24 2 (pgF ctx A N c) := by rw [hW1]; exact pgB w ctx A N c
  rw [← hW1]
  have HB1 := Lib.hid hb1; have HP1 := Lib.hid hp1
  clear hW1 hb1 hp1
  have c10 : W1.cell? ⟨w.heap.size, 0, none⟩ = some (.int .i64 ctx) := HP1.out.cell 0 (by omega)
  have c11 : W1.cell? ⟨w.heap.size, 1, none⟩ = some (.slice A N c) := HP1.out.cell 1 (by omega)
  go_upto_region 4 with (go_at_call 12; (with_reducible refine (HK1.out _ (HS.out.move (Mv.of_below HB1.out Any))).mono ?_); rintro e W2 ⟨⟨v, rfl, hv⟩, hb2⟩; obtain ⟨g, hg, rfl, hk⟩ := hv; have HB2 := Lib.hid hb2; have HG2 := Lib.hid hk; clear hb2 hk hg)
  clear c10 c11
  have HB12 := Lib.hid (HB1.out.trans (HB2.out.mono HB1.out.size))
  have HP2 := Lib.hid (HP1.out.below HB2.out)
  have c20 : W2.cell? ⟨w.heap.size, 0, none⟩ = some (.int .i64 ctx) := HP2.out.cell 0 (by omega)
  have c21 : W2.cell? ⟨w.heap.size, 1, none⟩ = some (.slice A N c) := HP2.out.cell 1 (by omega)
  go_upto_region 5 with (go_at_call 13; (with_reducible refine (HK2.out _ (HS.out.move (Mv.of_below HB12.out Any))).mono ?_); rintro e W3 ⟨⟨v, rfl, hv⟩, hb3⟩; obtain ⟨g2, hg, rfl, hk⟩ := hv; have HB3 := Lib.hid hb3; have HG3 := Lib.hid hk; clear hb3 hk hg)
  clear c20 c21
  have HB13 := Lib.hid (HB12.out.trans (HB3.out.mono HB12.out.size))
  have HP3 := Lib.hid (HP2.out.below HB3.out)
  have c30 : W3.cell? ⟨w.heap.size, 0, none⟩ = some (.int .i64 ctx) := HP3.out.cell 0 (by omega)
  have c31 : W3.cell? ⟨w.heap.size, 1, none⟩ = some (.slice A N c) := HP3.out.cell 1 (by omega)
  go_wp2_with (first | (go_at_call 14; (with_reducible refine (HCH.out _ (HS.out.move (Mv.of_below HB13.out Any))).mono ?_); rintro e W4 ⟨rfl, hb4⟩; have HB4 := Lib.hid hb4; clear hb4) | (go_at_call 15; (with_reducible refine (same_ok _ K N g g2 ((HG2.out.blw HB3.out).blw HB4.out) (HG3.out.blw HB4.out) (by omega)).mono ?_); rintro e W5 ⟨rfl, hb5⟩; have HB5 := Lib.hid hb5; clear hb5) | (go_at_call 11; (with_reducible refine (HKN.out _).mono ?_); rintro e W6 ⟨rfl, hb6⟩; have HB6 := Lib.hid hb6; clear hb6))
  go_ret
  have b14 := HB13.out.trans (HB4.out.mono HB13.out.size)
  have b15 := b14.trans (HB5.out.mono b14.size)
  exact ⟨rfl, b15.trans (HB6.out.mono b15.size)⟩

set_option maxRecDepth 100000 in
set_option maxHeartbeats 2000000 in
theorem ckn_no (w : World) (ctx : Int) (A : Option Addr) (N c : Nat) (L : List Value) (ev : Nat) (hs : Sl w Any 5 A N c L) (hN : N ≤ 300)
    (hch : ∀ W, Sl W Any 5 A N c L → Calls Try.prog 14 #[.agg #[.int .i64 ctx, .slice A N c]] W fun e w' => e = .returned (.int .i64 (codeK (.no ev) : Int)) ∧ Below W.heap.size W w')
    (hk1 : ∀ W, Sl W Any 5 A N c L → Calls Try.prog 12 #[.agg #[.int .i64 ctx, .slice A N c]] W fun e w' => (∃ v, e = .returned v ∧ KnR W w' N (.no ev) v) ∧ Below W.heap.size W w')
    (hk2 : ∀ W, Sl W Any 5 A N c L → Calls Try.prog 13 #[.agg #[.int .i64 ctx, .slice A N c]] W fun e w' => (∃ v, e = .returned v ∧ KnR W w' N (.no ev) v) ∧ Below W.heap.size W w') :
    Calls Try.prog 3 #[.agg #[.int .i64 ctx, .slice A N c]] w fun e w' => e = .returned (.bool true) ∧ Below w.heap.size w w' := by
  have HS := Lib.hid hs; have HKN := Lib.hid lawknown_ok
  have HCH : Hid (∀ W, Sl W Any 5 A N c L → Calls Try.prog 14 #[.agg #[.int .i64 ctx, .slice A N c]] W fun e w' => e = .returned (.int .i64 (codeK (.no ev) : Int)) ∧ Below W.heap.size W w') := Lib.hid hch
  have HK1 : Hid (∀ W, Sl W Any 5 A N c L → Calls Try.prog 12 #[.agg #[.int .i64 ctx, .slice A N c]] W fun e w' => (∃ v, e = .returned v ∧ KnR W w' N (.no ev) v) ∧ Below W.heap.size W w') := Lib.hid hk1
  have HK2 : Hid (∀ W, Sl W Any 5 A N c L → Calls Try.prog 13 #[.agg #[.int .i64 ctx, .slice A N c]] W fun e w' => (∃ v, e = .returned v ∧ KnR W w' N (.no ev) v) ∧ Below W.heap.size W w') := Lib.hid hk2
  clear hs hch hk1 hk2
  have h300 : ¬ (300 : Int) < (N : Int) := by omega
  go_enter Try.func3, Try.ntmps3
  go_upto_region 1 with fail
  obtain ⟨W1, hW1⟩ : ∃ W1, W1 = w.alloc (.cells #[.int .i64 ctx, .slice A N c] 24) := ⟨_, rfl⟩
  have hb1 : Below w.heap.size w W1 := by rw [hW1]; exact (Below.refl _ _).alloc (Nat.le_refl _) _
  have hp1 : Blk W1 w.heap.size 24 2 (pgF ctx A N c) := by rw [hW1]; exact pgB w ctx A N c
  rw [← hW1]
  have HB1 := Lib.hid hb1; have HP1 := Lib.hid hp1
  clear hW1 hb1 hp1
  have c10 : W1.cell? ⟨w.heap.size, 0, none⟩ = some (.int .i64 ctx) := HP1.out.cell 0 (by omega)
  have c11 : W1.cell? ⟨w.heap.size, 1, none⟩ = some (.slice A N c) := HP1.out.cell 1 (by omega)
  go_upto_region 4 with (go_at_call 12; (with_reducible refine (HK1.out _ (HS.out.move (Mv.of_below HB1.out Any))).mono ?_); rintro e W2 ⟨⟨v, rfl, hv⟩, hb2⟩; obtain rfl := hv; have HB2 := Lib.hid hb2; clear hb2)
  clear c10 c11
  have HB12 := Lib.hid (HB1.out.trans (HB2.out.mono HB1.out.size))
  have HP2 := Lib.hid (HP1.out.below HB2.out)
  have c20 : W2.cell? ⟨w.heap.size, 0, none⟩ = some (.int .i64 ctx) := HP2.out.cell 0 (by omega)
  have c21 : W2.cell? ⟨w.heap.size, 1, none⟩ = some (.slice A N c) := HP2.out.cell 1 (by omega)
  go_upto_region 5 with (go_at_call 13; (with_reducible refine (HK2.out _ (HS.out.move (Mv.of_below HB12.out Any))).mono ?_); rintro e W3 ⟨⟨v, rfl, hv⟩, hb3⟩; obtain rfl := hv; have HB3 := Lib.hid hb3; clear hb3)
  clear c20 c21
  have HB13 := Lib.hid (HB12.out.trans (HB3.out.mono HB12.out.size))
  have HP3 := Lib.hid (HP2.out.below HB3.out)
  have c30 : W3.cell? ⟨w.heap.size, 0, none⟩ = some (.int .i64 ctx) := HP3.out.cell 0 (by omega)
  have c31 : W3.cell? ⟨w.heap.size, 1, none⟩ = some (.slice A N c) := HP3.out.cell 1 (by omega)
  go_wp2_with (first | (go_at_call 14; (with_reducible refine (HCH.out _ (HS.out.move (Mv.of_below HB13.out Any))).mono ?_); rintro e W4 ⟨rfl, hb4⟩; have HB4 := Lib.hid hb4; clear hb4) | (go_at_call 15; (with_reducible refine (same_nil _).mono ?_); rintro e W5 ⟨rfl, hb5⟩; have HB5 := Lib.hid hb5; clear hb5) | (go_at_call 11; (with_reducible refine (HKN.out _).mono ?_); rintro e W6 ⟨rfl, hb6⟩; have HB6 := Lib.hid hb6; clear hb6))
  go_ret
  have b14 := HB13.out.trans (HB4.out.mono HB13.out.size)
  have b15 := b14.trans (HB5.out.mono b14.size)
  exact ⟨rfl, b15.trans (HB6.out.mono b15.size)⟩

set_option maxRecDepth 100000 in
set_option maxHeartbeats 2000000 in
theorem ckn_long (w : World) (ctx : Int) (A : Option Addr) (N c : Nat) (hN : 300 < N) : Calls Try.prog 3 #[.agg #[.int .i64 ctx, .slice A N c]] w fun e w' => e = .returned (.bool true) ∧ Below w.heap.size w w' := by
  have HKN := Lib.hid lawknown_ok
  have h300 : (300 : Int) < (N : Int) := by omega
  go_enter Try.func3, Try.ntmps3
  go_wp2_with (go_at_call 11; (with_reducible refine (HKN.out _).mono ?_); rintro e W6 ⟨rfl, hb6⟩; have HB6 := Lib.hid hb6; clear hb6)
  go_ret
  have b1 : Below w.heap.size w (w.alloc (.cells #[.int .i64 ctx, .slice A N c] 24)) := (Below.refl _ _).alloc (Nat.le_refl _) _
  exact ⟨rfl, b1.trans (HB6.out.mono b1.size)⟩
theorem checkknown_ok (w : World) (ctx : Int) (A : Option Addr) (c : Nat) (pr : List InsZ) (hs : Sl w Any 5 A pr.length c (pr.flatMap insZC)) (him : ∀ i, i ∈ pr → i.imm < 4294967296) :
    Calls Try.prog 3 #[.agg #[.int .i64 ctx, .slice A pr.length c]] w fun e w' => e = .returned (.bool true) ∧ Below w.heap.size w w' := by
  rcases Nat.lt_or_ge 300 pr.length with h | h
  · exact ckn_long w ctx A pr.length c h
  · have hch := fun W hW => checkok_ok W ctx A c pr hW (by omega)
    have hk1 := fun W hW => known_ok W ctx A c pr hW (by omega)
    have hk2 := fun W hW => refknown_ok W ctx A c pr hW (by omega) him
    cases hR : knownZ ctx pr with
    | ok K =>
      rw [hR] at hch hk1 hk2
      exact ckn_ok w ctx A pr.length c _ K hs h hch hk1 hk2
    | no ev =>
      rw [hR] at hch hk1 hk2
      exact ckn_no w ctx A pr.length c _ ev hs h hch hk1 hk2
end Go.Proofs.Ytjlddhnjbjhmkaa
