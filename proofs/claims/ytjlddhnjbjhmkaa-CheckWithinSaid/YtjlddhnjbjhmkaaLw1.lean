/- Layer 6: two ways that meet. -/
import Derived.Test.YtjlddhnjbjhmkaaGl
set_option linter.unusedVariables false
set_option linter.unusedSimpArgs false
namespace Go.Proofs.Ytjlddhnjbjhmkaa
open Go.RowKit

/-- A block of instructions, as a slice. -/
theorem sl_blk {W : World} {b n : Nat} {t : TypeId} {pr : List InsZ} {F : Nat → Value} (h : Blk W b t (n * 5) F) (hn : pr.length = n) (hm : n ≤ maxLen) (hF : ∀ j, j < n * 5 → F j = (pr.flatMap insZC).getD j undef) : Sl W Any 5 (some ⟨b, 0, none⟩) n n (pr.flatMap insZC) := by
  have hl : (pr.flatMap insZC).length = n * 5 := by
    rw [← hn]
    clear hn hF h
    induction pr with
    | nil => rfl
    | cons y ys ih => rw [List.flatMap_cons, List.length_append, ih, List.length_cons]; simp [insZC]; omega
  refine ⟨hl, Nat.le_refl _, hm, (fun h => by cases h), fun a ha hn0 => ?_⟩
  injection ha with ha
  subst ha
  refine ⟨trivial, h.lt, fun j u hu => ?_⟩
  have hj : j < n * 5 := by rw [← hl]; exact (List.getElem?_eq_some_iff.1 hu).1
  have := h.cell j hj
  rw [hF j hj, List.getD_eq_getElem?_getD, hu] at this
  have e : (⟨b, 0, none⟩ : Addr).add j = ⟨b, j, none⟩ := by simp [Addr.add]; try exact fun h => h.symm
  rw [e]
  exact this
/-- What is known at a place. -/
def kOf : KR → Nat → Kn
  | .ok K, x => K x
  | .no _, _ => kn0
theorem knr_fine {w w' : World} {N : Nat} {R : KR} {v : Value} (h : KnR w w' N R v) (hR : codeK R = 0) (hK : ∃ K, R = .ok K) : ∃ g, w.heap.size ≤ g ∧ v = .tuple #[.slice (some ⟨g, 0, none⟩) N N, .int .i64 0] ∧ KsB w' g N (kOf R) := by
  obtain ⟨K, rfl⟩ := hK
  exact h

theorem Blk.litL (w : World) (t : TypeId) (cs : List Value) : Blk (w.alloc (.cells cs.toArray t)) w.heap.size t cs.length (fun j => cs.getD j undef) :=
  Blk.new w t _ _ (by simp) _ (fun j hj => by rw [List.getElem?_toArray, List.getD_eq_getElem?_getD, List.getElem?_eq_getElem hj]; rfl)
theorem getD_set (L : List Value) (k : Nat) (v : Value) (j : Nat) (hk : k < L.length) : (L.set k v).getD j undef = if j = k then v else L.getD j undef := by
  simp only [List.getD_eq_getElem?_getD, List.getElem?_set]
  by_cases e : j = k
  · subst e; simp [hk]
  · rw [if_neg (fun h => e h.symm), if_neg e]
theorem ways1_ok (w : World) (op dst imm : Int) : Calls Try.prog 23 #[.int .i64 op, .int .i64 dst, .int .u32 imm] w fun e w' => e = .returned (.agg #[.int .i64 op, .int .i64 dst, .int .i64 0, .int .i64 0, .int .u32 imm]) ∧ Below w.heap.size w w' := by
  go_enter Try.func23, Try.ntmps23
  go_wp2
  have hB : Blk (w.alloc (.cells #[.int .i64 op, .int .i64 dst, .int .i64 0, .int .i64 0, .int .u32 imm] 45)) w.heap.size 45 5 (fun j => [.int .i64 op, .int .i64 dst, .int .i64 0, .int .i64 0, .int .u32 imm].getD j undef) := Blk.new w _ _ 5 rfl _ (fun j hj => by
    have : j = 0 ∨ j = 1 ∨ j = 2 ∨ j = 3 ∨ j = 4 := by omega
    rcases this with rfl | rfl | rfl | rfl | rfl <;> rfl)
  exact bodyPost_ret (v := .agg #[.int .i64 op, .int .i64 dst, .int .i64 0, .int .i64 0, .int .u32 imm]) (results_cell1_range Try.results23 _ _ w.heap.size 0 [.int .i64 op, .int .i64 dst, .int .i64 0, .int .i64 0, .int .u32 imm] _ rfl hB.range Try.underlying45 rfl size_ins) rfl ⟨rfl, (Below.refl _ _).alloc (Nat.le_refl _) _⟩

def prW (d e : Int) (a b : Nat) : List InsZ := [⟨23, 0, 0, 0, 0⟩, ⟨20, 0, 0, 2, 7⟩, ⟨1, d, 0, 0, a⟩, ⟨19, 0, 0, 1, 0⟩, ⟨1, e, 0, 0, b⟩, ⟨24, 0, 0, 0, 0⟩]
def wayV (s0 s1 : Bool) (a b : Nat) : Rg := if s0 && s1 then ⟨true, min a b, max a b⟩ else rg0
def dW (s0 : Bool) : Int := if s0 then 6 else 7
def eW (s1 : Bool) : Int := if s1 then 6 else 8
def isOk : KR → Bool
  | .ok _ => true
  | .no _ => false
theorem ok_of {R : KR} (h : isOk R = true) : ∃ K, R = .ok K := by
  cases R
  · exact ⟨_, rfl⟩
  · cases h
theorem prW_check (s0 s1 : Bool) (a b : Nat) (ha : a < 4294967296) (hb : b < 4294967296) : checkN 0 (prW (dW s0) (eW s1) a b) = 0 := by
  have h1 : mayB ⟨1, dW s0, 0, 0, a⟩ = true := by
    cases s0
    · show decide (a ≤ 4294967295) = true; exact decide_eq_true (by omega)
    · show decide (a ≤ 4294967295) = true; exact decide_eq_true (by omega)
  have h2 : mayB ⟨1, eW s1, 0, 0, b⟩ = true := by
    cases s1
    · show decide (b ≤ 4294967295) = true; exact decide_eq_true (by omega)
    · show decide (b ≤ 4294967295) = true; exact decide_eq_true (by omega)
  have h3 : mayB ⟨23, 0, 0, 0, 0⟩ = true := by kernel_rfl
  have h4 : mayB ⟨20, 0, 0, 2, 7⟩ = true := by kernel_rfl
  have h5 : mayB ⟨19, 0, 0, 1, 0⟩ = true := by kernel_rfl
  have h6 : mayB ⟨24, 0, 0, 0, 0⟩ = true := by kernel_rfl
  unfold checkN
  rw [if_neg (by omega)]
  simp [prW, h1, h2, h3, h4, h5, h6]
theorem prW_known (s0 s1 : Bool) (a b : Nat) (ha : a < 4294967296) (hb : b < 4294967296) : (∃ K, knownZ 0 (prW (dW s0) (eW s1) a b) = .ok K) ∧ ((kOf (knownZ 0 (prW (dW s0) (eW s1) a b)) 5).r 6) = wayV s0 s1 a b := by
  have e : knownZ 0 (prW (dW s0) (eW s1) a b) = runK 0 6 ((prW (dW s0) (eW s1) a b).map ofZ) 0 K0 := by
    unfold knownZ
    rw [prW_check s0 s1 a b ha hb, if_neg (by simp), if_neg (by simp [prW])]
    rfl
  rw [e]
  refine ⟨ok_of ?_, ?_⟩
  · cases s0 <;> cases s1 <;> kernel_rfl
  · cases s0 <;> cases s1 <;> kernel_rfl
def litW (a b : Nat) : List Value := [.int .i64 23, .int .i64 0, .int .i64 0, .int .i64 0, .int .u32 0, .int .i64 20, .int .i64 0, .int .i64 0, .int .i64 2, .int .u32 7, .int .i64 1, .int .i64 6, .int .i64 0, .int .i64 0, .int .u32 (a : Int), .int .i64 19, .int .i64 0, .int .i64 0, .int .i64 1, .int .u32 0, .int .i64 1, .int .i64 6, .int .i64 0, .int .i64 0, .int .u32 (b : Int), .int .i64 24, .int .i64 0, .int .i64 0, .int .i64 0, .int .u32 0]
theorem ways_world (W3 : World) (a b : Nat) : ∃ Wp, Hid (Wp = (W3.alloc (.cells #[.int .i64 23, .int .i64 0, .int .i64 0, .int .i64 0, .int .u32 0, .int .i64 20, .int .i64 0, .int .i64 0, .int .i64 2, .int .u32 7, .int .i64 1, .int .i64 6, .int .i64 0, .int .i64 0, .int .u32 (a : Int), .int .i64 19, .int .i64 0, .int .i64 0, .int .i64 1, .int .u32 0, .int .i64 1, .int .i64 6, .int .i64 0, .int .i64 0, .int .u32 (b : Int), .int .i64 24, .int .i64 0, .int .i64 0, .int .i64 0, .int .u32 0] 45)).alloc (.cells #[.int .i64 0, .slice (some ⟨W3.heap.size, 0, none⟩) 6 6] 24)) ∧ Hid (Below W3.heap.size W3 Wp) ∧ Hid (Blk Wp W3.heap.size 45 30 (fun j => (litW a b).getD j undef)) ∧ Hid (Blk Wp (W3.heap.size + 1) 24 2 (pgF 0 (some ⟨W3.heap.size, 0, none⟩) 6 6)) := by
  have s1 : Blk (W3.alloc (.cells #[.int .i64 23, .int .i64 0, .int .i64 0, .int .i64 0, .int .u32 0, .int .i64 20, .int .i64 0, .int .i64 0, .int .i64 2, .int .u32 7, .int .i64 1, .int .i64 6, .int .i64 0, .int .i64 0, .int .u32 (a : Int), .int .i64 19, .int .i64 0, .int .i64 0, .int .i64 1, .int .u32 0, .int .i64 1, .int .i64 6, .int .i64 0, .int .i64 0, .int .u32 (b : Int), .int .i64 24, .int .i64 0, .int .i64 0, .int .i64 0, .int .u32 0] 45)) W3.heap.size 45 30 (fun j => (litW a b).getD j undef) := Blk.litL W3 45 (litW a b)
  obtain ⟨Wa, hWa⟩ : ∃ Wa, Wa = W3.alloc (.cells #[.int .i64 23, .int .i64 0, .int .i64 0, .int .i64 0, .int .u32 0, .int .i64 20, .int .i64 0, .int .i64 0, .int .i64 2, .int .u32 7, .int .i64 1, .int .i64 6, .int .i64 0, .int .i64 0, .int .u32 (a : Int), .int .i64 19, .int .i64 0, .int .i64 0, .int .i64 1, .int .u32 0, .int .i64 1, .int .i64 6, .int .i64 0, .int .i64 0, .int .u32 (b : Int), .int .i64 24, .int .i64 0, .int .i64 0, .int .i64 0, .int .u32 0] 45) := ⟨_, rfl⟩
  have za : Wa.heap.size = W3.heap.size + 1 := by rw [hWa]; simp
  have ba : Below W3.heap.size W3 Wa := by rw [hWa]; exact (Below.refl _ _).alloc (Nat.le_refl _) _
  rw [← hWa] at s1 ⊢
  have p2 := pgB Wa 0 (some ⟨W3.heap.size, 0, none⟩) 6 6
  rw [za] at p2
  have bb : Below Wa.heap.size Wa (Wa.alloc (.cells #[.int .i64 0, .slice (some ⟨W3.heap.size, 0, none⟩) 6 6] 24)) := (Below.refl _ _).alloc (Nat.le_refl _) _
  exact ⟨_, Lib.hid rfl, Lib.hid (ba.trans (bb.mono (by omega))), Lib.hid (s1.below bb), Lib.hid p2⟩

set_option maxRecDepth 100000 in
set_option maxHeartbeats 1000000 in
theorem ways_true_true (w : World) (a b : Nat) (ha : a < 4294967296) (hb : b < 4294967296) : Calls Try.prog 10 #[.int .u32 (a : Int), .int .u32 (b : Int), .agg #[.bool true, .bool true]] w fun e w' => e = .returned (.bool true) ∧ Below w.heap.size w w' := by
  have HWA : Hid (∀ W : World, Calls Try.prog 23 #[.int .i64 1, .int .i64 6, .int .u32 (a : Int)] W fun e w' => e = .returned (.agg #[.int .i64 1, .int .i64 6, .int .i64 0, .int .i64 0, .int .u32 (a : Int)]) ∧ Below W.heap.size W w') := Lib.hid (fun W => ways1_ok W _ _ _)
  have HWB : Hid (∀ W : World, Calls Try.prog 23 #[.int .i64 1, .int .i64 6, .int .u32 (b : Int)] W fun e w' => e = .returned (.agg #[.int .i64 1, .int .i64 6, .int .i64 0, .int .i64 0, .int .u32 (b : Int)]) ∧ Below W.heap.size W w') := Lib.hid (fun W => ways1_ok W _ _ _)
  obtain ⟨hk0, hv0⟩ := prW_known true true a b ha hb
  have HK0 := Lib.hid hk0; have HV0 := Lib.hid hv0; clear hk0 hv0
  have HKN := Lib.hid lawknown_ok
  have hb0 : Below w.heap.size w (w.alloc (.cells #[.bool true, .bool true] 68)) := (Below.refl _ _).alloc (Nat.le_refl _) _
  have HS0 := Lib.hid (Blk.lit w 68 #[.bool true, .bool true])
  have HB0 := Lib.hid hb0; clear hb0
  go_enter Try.func10, Try.ntmps10
  go_upto_region 3 with (go_at_call 23; first | ((with_reducible refine (HWA.out _).mono ?_); rintro e' W2 ⟨rfl, hb2⟩; have HB2 := Lib.hid hb2; clear hb2) | ((with_reducible refine (HWB.out _).mono ?_); rintro e' W3 ⟨rfl, hb3⟩; have HB3 := Lib.hid hb3; clear hb3))
  obtain ⟨Wp, HWP, HBP, HIB0, HPB0⟩ := ways_world W3 a b
  rw [← HWP.out]
  have hbw : Below w.heap.size w W3 := (HB0.out.trans (HB2.out.mono HB0.out.size)).trans (HB3.out.mono (HB0.out.trans (HB2.out.mono HB0.out.size)).size)
  have HS3 := Lib.hid ((HS0.out.below HB2.out).below HB3.out)
  have hz : w.heap.size < W3.heap.size := Blk.lt HS3.out
  obtain ⟨b3, hb3⟩ : ∃ b3, b3 = W3.heap.size := ⟨_, rfl⟩
  have HBW := Lib.hid (hbw.trans (HBP.out.mono hbw.size))
  have HSP := Lib.hid (HS3.out.below HBP.out)
  rw [← hb3] at HIB0 HPB0 hz ⊢
  have HIB := HIB0; have HPB := HPB0
  clear hbw hb3
  have k0 : Wp.cell? ⟨w.heap.size, 0, none⟩ = some (.bool true) := HSP.out.cell 0 (by simp)
  have k1 : Wp.cell? ⟨w.heap.size, 1, none⟩ = some (.bool true) := HSP.out.cell 1 (by simp)
  have p0 : Wp.cell? ⟨b3 + 1, 0, none⟩ = some (.int .i64 0) := HPB.out.cell 0 (by omega)
  have p1 : Wp.cell? ⟨b3 + 1, 1, none⟩ = some (.slice (some ⟨b3, 0, none⟩) 6 6) := HPB.out.cell 1 (by omega)
  have i11 : Wp.cell? ⟨b3, 11, none⟩ = some (.int .i64 6) := HIB.out.cell 11 (by omega)
  have i21 : Wp.cell? ⟨b3, 21, none⟩ = some (.int .i64 6) := HIB.out.cell 21 (by omega)
  have f11 : Wp.frozen? ⟨b3, 11, none⟩ = false := Blk.frozen HIB.out 11
  have f21 : Wp.frozen? ⟨b3, 21, none⟩ = false := Blk.frozen HIB.out 21
  go_upto_region 7 with fail
  clear k0 k1 p0 p1 i11 i21 f11 f21
  obtain ⟨W7, hW7⟩ : ∃ W7, W7 = Wp := ⟨_, rfl⟩
  have hkp : Kp (fun k => k = b3) Wp W7 := by rw [hW7]; exact Kp.refl (fun k => k = b3) Wp
  have hi7 : Blk W7 b3 45 30 (fun j => ((prW (dW true) (eW true) a b).flatMap insZC).getD j undef) := by
    rw [hW7]
    refine HIB.out.congr (fun j hj => ?_)
    have hl : ((prW (dW true) (eW true) a b).flatMap insZC) = (litW a b) := rfl
    rw [hl]
    
  have HI7 := Lib.hid hi7
  have HP7 := Lib.hid (HPB.out.keep hkp (by omega))
  have HS7 := Lib.hid (HSP.out.keep hkp (by omega))
  have HB7 : Hid (Below w.heap.size w W7) := Lib.hid (show Below w.heap.size w W7 from by rw [hW7]; exact (Kp.of_below HBW.out No).below)
  rw [← hW7]
  clear hW7 hkp hi7
  have HKK : Hid (∀ W, Sl W Any 5 (some ⟨b3, 0, none⟩) 6 6 ((prW (dW true) (eW true) a b).flatMap insZC) → Calls Try.prog 12 #[.agg #[.int .i64 0, .slice (some ⟨b3, 0, none⟩) 6 6]] W fun e w' => ∃ g, e = .returned (.tuple #[.slice (some ⟨g, 0, none⟩) 6 6, .int .i64 0]) ∧ KsB w' g 6 (kOf (knownZ 0 (prW (dW true) (eW true) a b))) ∧ Below W.heap.size W w') := Lib.hid (fun W h => (known_ok W 0 (some ⟨b3, 0, none⟩) 6 (prW (dW true) (eW true) a b) h (by simp [prW])).mono (by
    rintro e w' ⟨⟨v, rfl, hv⟩, hb⟩
    obtain ⟨K, hK⟩ := HK0.out
    rw [hK] at hv ⊢
    obtain ⟨g, h1, h2, h3⟩ := hv
    exact ⟨g, by rw [h2]; rfl, h3, hb⟩))
  have HSL := Lib.hid (sl_blk (n := 6) HI7.out (pr := prW (dW true) (eW true) a b) rfl (by decide) (fun j hj => rfl))
  have p0 : W7.cell? ⟨b3 + 1, 0, none⟩ = some (.int .i64 0) := HP7.out.cell 0 (by omega)
  have p1 : W7.cell? ⟨b3 + 1, 1, none⟩ = some (.slice (some ⟨b3, 0, none⟩) 6 6) := HP7.out.cell 1 (by omega)
  go_upto_region 8 with (go_at_call 12; (with_reducible refine (HKK.out _ HSL.out).mono ?_); rintro e' W8 ⟨g, rfl, hks, hb8⟩; have HB8 := Lib.hid hb8; have HKS := Lib.hid hks; clear hb8 hks)
  clear p0 p1
  have HS8 := Lib.hid (HS7.out.below HB8.out)
  have HB8w := Lib.hid (HB7.out.trans (HB8.out.mono HB7.out.size))
  have k0 : W8.cell? ⟨w.heap.size, 0, none⟩ = some (.bool true) := HS8.out.cell 0 (by simp)
  have k1 : W8.cell? ⟨w.heap.size, 1, none⟩ = some (.bool true) := HS8.out.cell 1 (by simp)
  have hz8 : w.heap.size < W8.heap.size := Blk.lt HS8.out
  have r0 : W8.cell? ⟨g, 174, none⟩ = some (.bool true) := by
    have := Blk.cell HKS.out 174 (by omega)
    rw [show knsF (kOf (knownZ 0 (prW (dW true) (eW true) a b))) 174 = .bool (((kOf (knownZ 0 (prW (dW true) (eW true) a b)) 5).r 6).s) from rfl, HV0.out] at this
    exact this
  have r1 : W8.cell? ⟨g, 175, none⟩ = some (.int .u32 (min (a : Int) (b : Int))) := by
    have := Blk.cell HKS.out 175 (by omega)
    rw [show knsF (kOf (knownZ 0 (prW (dW true) (eW true) a b))) 175 = .int .u32 (((kOf (knownZ 0 (prW (dW true) (eW true) a b)) 5).r 6).l : Int) from rfl, HV0.out] at this
    rw [show min (a : Int) (b : Int) = ((min a b : Nat) : Int) from by omega]
    exact this
  have r2 : W8.cell? ⟨g, 176, none⟩ = some (.int .u32 (max (a : Int) (b : Int))) := by
    have := Blk.cell HKS.out 176 (by omega)
    rw [show knsF (kOf (knownZ 0 (prW (dW true) (eW true) a b))) 176 = .int .u32 (((kOf (knownZ 0 (prW (dW true) (eW true) a b)) 5).r 6).g : Int) from rfl, HV0.out] at this
    rw [show max (a : Int) (b : Int) = ((max a b : Nat) : Int) from by omega]
    exact this
  go_wp2_with (go_at_call 11; (with_reducible refine (HKN.out _).mono ?_); rintro e' W9 ⟨rfl, hb9⟩; have HB9 := Lib.hid hb9; clear hb9)
  go_ret
  exact ⟨rfl, HB8w.out.trans ((((Below.refl W8.heap.size W8).alloc (Nat.le_refl _) _).trans (HB9.out.mono (by simp))).mono HB8w.out.size)⟩

set_option maxRecDepth 100000 in
set_option maxHeartbeats 1000000 in
theorem ways_true_false (w : World) (a b : Nat) (ha : a < 4294967296) (hb : b < 4294967296) : Calls Try.prog 10 #[.int .u32 (a : Int), .int .u32 (b : Int), .agg #[.bool true, .bool false]] w fun e w' => e = .returned (.bool true) ∧ Below w.heap.size w w' := by
  have HWA : Hid (∀ W : World, Calls Try.prog 23 #[.int .i64 1, .int .i64 6, .int .u32 (a : Int)] W fun e w' => e = .returned (.agg #[.int .i64 1, .int .i64 6, .int .i64 0, .int .i64 0, .int .u32 (a : Int)]) ∧ Below W.heap.size W w') := Lib.hid (fun W => ways1_ok W _ _ _)
  have HWB : Hid (∀ W : World, Calls Try.prog 23 #[.int .i64 1, .int .i64 6, .int .u32 (b : Int)] W fun e w' => e = .returned (.agg #[.int .i64 1, .int .i64 6, .int .i64 0, .int .i64 0, .int .u32 (b : Int)]) ∧ Below W.heap.size W w') := Lib.hid (fun W => ways1_ok W _ _ _)
  obtain ⟨hk0, hv0⟩ := prW_known true false a b ha hb
  have HK0 := Lib.hid hk0; have HV0 := Lib.hid hv0; clear hk0 hv0
  have HKN := Lib.hid lawknown_ok
  have hb0 : Below w.heap.size w (w.alloc (.cells #[.bool true, .bool false] 68)) := (Below.refl _ _).alloc (Nat.le_refl _) _
  have HS0 := Lib.hid (Blk.lit w 68 #[.bool true, .bool false])
  have HB0 := Lib.hid hb0; clear hb0
  go_enter Try.func10, Try.ntmps10
  go_upto_region 3 with (go_at_call 23; first | ((with_reducible refine (HWA.out _).mono ?_); rintro e' W2 ⟨rfl, hb2⟩; have HB2 := Lib.hid hb2; clear hb2) | ((with_reducible refine (HWB.out _).mono ?_); rintro e' W3 ⟨rfl, hb3⟩; have HB3 := Lib.hid hb3; clear hb3))
  obtain ⟨Wp, HWP, HBP, HIB0, HPB0⟩ := ways_world W3 a b
  rw [← HWP.out]
  have hbw : Below w.heap.size w W3 := (HB0.out.trans (HB2.out.mono HB0.out.size)).trans (HB3.out.mono (HB0.out.trans (HB2.out.mono HB0.out.size)).size)
  have HS3 := Lib.hid ((HS0.out.below HB2.out).below HB3.out)
  have hz : w.heap.size < W3.heap.size := Blk.lt HS3.out
  obtain ⟨b3, hb3⟩ : ∃ b3, b3 = W3.heap.size := ⟨_, rfl⟩
  have HBW := Lib.hid (hbw.trans (HBP.out.mono hbw.size))
  have HSP := Lib.hid (HS3.out.below HBP.out)
  rw [← hb3] at HIB0 HPB0 hz ⊢
  have HIB := HIB0; have HPB := HPB0
  clear hbw hb3
  have k0 : Wp.cell? ⟨w.heap.size, 0, none⟩ = some (.bool true) := HSP.out.cell 0 (by simp)
  have k1 : Wp.cell? ⟨w.heap.size, 1, none⟩ = some (.bool false) := HSP.out.cell 1 (by simp)
  have p0 : Wp.cell? ⟨b3 + 1, 0, none⟩ = some (.int .i64 0) := HPB.out.cell 0 (by omega)
  have p1 : Wp.cell? ⟨b3 + 1, 1, none⟩ = some (.slice (some ⟨b3, 0, none⟩) 6 6) := HPB.out.cell 1 (by omega)
  have i11 : Wp.cell? ⟨b3, 11, none⟩ = some (.int .i64 6) := HIB.out.cell 11 (by omega)
  have i21 : Wp.cell? ⟨b3, 21, none⟩ = some (.int .i64 6) := HIB.out.cell 21 (by omega)
  have f11 : Wp.frozen? ⟨b3, 11, none⟩ = false := Blk.frozen HIB.out 11
  have f21 : Wp.frozen? ⟨b3, 21, none⟩ = false := Blk.frozen HIB.out 21
  go_upto_region 7 with fail
  clear k0 k1 p0 p1 i11 i21 f11 f21
  obtain ⟨W7, hW7⟩ : ∃ W7, W7 = (Wp.setCell ⟨b3, 21, none⟩ (.int .i64 8)) := ⟨_, rfl⟩
  have hkp : Kp (fun k => k = b3) Wp W7 := by rw [hW7]; exact (Kp.refl (fun k => k = b3) Wp).setCell (p := ⟨b3, 21, none⟩) (.inl rfl) _
  have hi7 : Blk W7 b3 45 30 (fun j => ((prW (dW true) (eW false) a b).flatMap insZC).getD j undef) := by
    rw [hW7]
    refine (HIB.out.set 21 (.int .i64 8)).congr (fun j hj => ?_)
    have hl : ((prW (dW true) (eW false) a b).flatMap insZC) = ((litW a b).set 21 (.int .i64 8)) := rfl
    rw [hl]
    rw [getD_set _ _ _ _ (by first | simp [litW] | (rw [List.length_set]; simp [litW]))]
  have HI7 := Lib.hid hi7
  have HP7 := Lib.hid (HPB.out.keep hkp (by omega))
  have HS7 := Lib.hid (HSP.out.keep hkp (by omega))
  have HB7 : Hid (Below w.heap.size w W7) := Lib.hid (show Below w.heap.size w W7 from by rw [hW7]; exact ((Kp.of_below HBW.out No).setCell (p := ⟨b3, 21, none⟩) (.inr (by show w.heap.size ≤ b3; omega)) (.int .i64 8)).below)
  rw [← hW7]
  clear hW7 hkp hi7
  have HKK : Hid (∀ W, Sl W Any 5 (some ⟨b3, 0, none⟩) 6 6 ((prW (dW true) (eW false) a b).flatMap insZC) → Calls Try.prog 12 #[.agg #[.int .i64 0, .slice (some ⟨b3, 0, none⟩) 6 6]] W fun e w' => ∃ g, e = .returned (.tuple #[.slice (some ⟨g, 0, none⟩) 6 6, .int .i64 0]) ∧ KsB w' g 6 (kOf (knownZ 0 (prW (dW true) (eW false) a b))) ∧ Below W.heap.size W w') := Lib.hid (fun W h => (known_ok W 0 (some ⟨b3, 0, none⟩) 6 (prW (dW true) (eW false) a b) h (by simp [prW])).mono (by
    rintro e w' ⟨⟨v, rfl, hv⟩, hb⟩
    obtain ⟨K, hK⟩ := HK0.out
    rw [hK] at hv ⊢
    obtain ⟨g, h1, h2, h3⟩ := hv
    exact ⟨g, by rw [h2]; rfl, h3, hb⟩))
  have HSL := Lib.hid (sl_blk (n := 6) HI7.out (pr := prW (dW true) (eW false) a b) rfl (by decide) (fun j hj => rfl))
  have p0 : W7.cell? ⟨b3 + 1, 0, none⟩ = some (.int .i64 0) := HP7.out.cell 0 (by omega)
  have p1 : W7.cell? ⟨b3 + 1, 1, none⟩ = some (.slice (some ⟨b3, 0, none⟩) 6 6) := HP7.out.cell 1 (by omega)
  go_upto_region 8 with (go_at_call 12; (with_reducible refine (HKK.out _ HSL.out).mono ?_); rintro e' W8 ⟨g, rfl, hks, hb8⟩; have HB8 := Lib.hid hb8; have HKS := Lib.hid hks; clear hb8 hks)
  clear p0 p1
  have HS8 := Lib.hid (HS7.out.below HB8.out)
  have HB8w := Lib.hid (HB7.out.trans (HB8.out.mono HB7.out.size))
  have k0 : W8.cell? ⟨w.heap.size, 0, none⟩ = some (.bool true) := HS8.out.cell 0 (by simp)
  have k1 : W8.cell? ⟨w.heap.size, 1, none⟩ = some (.bool false) := HS8.out.cell 1 (by simp)
  have hz8 : w.heap.size < W8.heap.size := Blk.lt HS8.out
  have r0 : W8.cell? ⟨g, 174, none⟩ = some (.bool false) := by
    have := Blk.cell HKS.out 174 (by omega)
    rw [show knsF (kOf (knownZ 0 (prW (dW true) (eW false) a b))) 174 = .bool (((kOf (knownZ 0 (prW (dW true) (eW false) a b)) 5).r 6).s) from rfl, HV0.out] at this
    exact this
  have r1 : W8.cell? ⟨g, 175, none⟩ = some (.int .u32 0) := by
    have := Blk.cell HKS.out 175 (by omega)
    rw [show knsF (kOf (knownZ 0 (prW (dW true) (eW false) a b))) 175 = .int .u32 (((kOf (knownZ 0 (prW (dW true) (eW false) a b)) 5).r 6).l : Int) from rfl, HV0.out] at this
    skip
    exact this
  have r2 : W8.cell? ⟨g, 176, none⟩ = some (.int .u32 0) := by
    have := Blk.cell HKS.out 176 (by omega)
    rw [show knsF (kOf (knownZ 0 (prW (dW true) (eW false) a b))) 176 = .int .u32 (((kOf (knownZ 0 (prW (dW true) (eW false) a b)) 5).r 6).g : Int) from rfl, HV0.out] at this
    skip
    exact this
  go_wp2_with (go_at_call 11; (with_reducible refine (HKN.out _).mono ?_); rintro e' W9 ⟨rfl, hb9⟩; have HB9 := Lib.hid hb9; clear hb9)
  go_ret
  exact ⟨rfl, HB8w.out.trans ((((Below.refl W8.heap.size W8).alloc (Nat.le_refl _) _).trans (HB9.out.mono (by simp))).mono HB8w.out.size)⟩

set_option maxRecDepth 100000 in
set_option maxHeartbeats 1000000 in
theorem ways_false_true (w : World) (a b : Nat) (ha : a < 4294967296) (hb : b < 4294967296) : Calls Try.prog 10 #[.int .u32 (a : Int), .int .u32 (b : Int), .agg #[.bool false, .bool true]] w fun e w' => e = .returned (.bool true) ∧ Below w.heap.size w w' := by
  have HWA : Hid (∀ W : World, Calls Try.prog 23 #[.int .i64 1, .int .i64 6, .int .u32 (a : Int)] W fun e w' => e = .returned (.agg #[.int .i64 1, .int .i64 6, .int .i64 0, .int .i64 0, .int .u32 (a : Int)]) ∧ Below W.heap.size W w') := Lib.hid (fun W => ways1_ok W _ _ _)
  have HWB : Hid (∀ W : World, Calls Try.prog 23 #[.int .i64 1, .int .i64 6, .int .u32 (b : Int)] W fun e w' => e = .returned (.agg #[.int .i64 1, .int .i64 6, .int .i64 0, .int .i64 0, .int .u32 (b : Int)]) ∧ Below W.heap.size W w') := Lib.hid (fun W => ways1_ok W _ _ _)
  obtain ⟨hk0, hv0⟩ := prW_known false true a b ha hb
  have HK0 := Lib.hid hk0; have HV0 := Lib.hid hv0; clear hk0 hv0
  have HKN := Lib.hid lawknown_ok
  have hb0 : Below w.heap.size w (w.alloc (.cells #[.bool false, .bool true] 68)) := (Below.refl _ _).alloc (Nat.le_refl _) _
  have HS0 := Lib.hid (Blk.lit w 68 #[.bool false, .bool true])
  have HB0 := Lib.hid hb0; clear hb0
  go_enter Try.func10, Try.ntmps10
  go_upto_region 3 with (go_at_call 23; first | ((with_reducible refine (HWA.out _).mono ?_); rintro e' W2 ⟨rfl, hb2⟩; have HB2 := Lib.hid hb2; clear hb2) | ((with_reducible refine (HWB.out _).mono ?_); rintro e' W3 ⟨rfl, hb3⟩; have HB3 := Lib.hid hb3; clear hb3))
  obtain ⟨Wp, HWP, HBP, HIB0, HPB0⟩ := ways_world W3 a b
  rw [← HWP.out]
  have hbw : Below w.heap.size w W3 := (HB0.out.trans (HB2.out.mono HB0.out.size)).trans (HB3.out.mono (HB0.out.trans (HB2.out.mono HB0.out.size)).size)
  have HS3 := Lib.hid ((HS0.out.below HB2.out).below HB3.out)
  have hz : w.heap.size < W3.heap.size := Blk.lt HS3.out
  obtain ⟨b3, hb3⟩ : ∃ b3, b3 = W3.heap.size := ⟨_, rfl⟩
  have HBW := Lib.hid (hbw.trans (HBP.out.mono hbw.size))
  have HSP := Lib.hid (HS3.out.below HBP.out)
  rw [← hb3] at HIB0 HPB0 hz ⊢
  have HIB := HIB0; have HPB := HPB0
  clear hbw hb3
  have k0 : Wp.cell? ⟨w.heap.size, 0, none⟩ = some (.bool false) := HSP.out.cell 0 (by simp)
  have k1 : Wp.cell? ⟨w.heap.size, 1, none⟩ = some (.bool true) := HSP.out.cell 1 (by simp)
  have p0 : Wp.cell? ⟨b3 + 1, 0, none⟩ = some (.int .i64 0) := HPB.out.cell 0 (by omega)
  have p1 : Wp.cell? ⟨b3 + 1, 1, none⟩ = some (.slice (some ⟨b3, 0, none⟩) 6 6) := HPB.out.cell 1 (by omega)
  have i11 : Wp.cell? ⟨b3, 11, none⟩ = some (.int .i64 6) := HIB.out.cell 11 (by omega)
  have i21 : Wp.cell? ⟨b3, 21, none⟩ = some (.int .i64 6) := HIB.out.cell 21 (by omega)
  have f11 : Wp.frozen? ⟨b3, 11, none⟩ = false := Blk.frozen HIB.out 11
  have f21 : Wp.frozen? ⟨b3, 21, none⟩ = false := Blk.frozen HIB.out 21
  go_upto_region 7 with fail
  clear k0 k1 p0 p1 i11 i21 f11 f21
  obtain ⟨W7, hW7⟩ : ∃ W7, W7 = (Wp.setCell ⟨b3, 11, none⟩ (.int .i64 7)) := ⟨_, rfl⟩
  have hkp : Kp (fun k => k = b3) Wp W7 := by rw [hW7]; exact (Kp.refl (fun k => k = b3) Wp).setCell (p := ⟨b3, 11, none⟩) (.inl rfl) _
  have hi7 : Blk W7 b3 45 30 (fun j => ((prW (dW false) (eW true) a b).flatMap insZC).getD j undef) := by
    rw [hW7]
    refine (HIB.out.set 11 (.int .i64 7)).congr (fun j hj => ?_)
    have hl : ((prW (dW false) (eW true) a b).flatMap insZC) = ((litW a b).set 11 (.int .i64 7)) := rfl
    rw [hl]
    rw [getD_set _ _ _ _ (by first | simp [litW] | (rw [List.length_set]; simp [litW]))]
  have HI7 := Lib.hid hi7
  have HP7 := Lib.hid (HPB.out.keep hkp (by omega))
  have HS7 := Lib.hid (HSP.out.keep hkp (by omega))
  have HB7 : Hid (Below w.heap.size w W7) := Lib.hid (show Below w.heap.size w W7 from by rw [hW7]; exact ((Kp.of_below HBW.out No).setCell (p := ⟨b3, 11, none⟩) (.inr (by show w.heap.size ≤ b3; omega)) (.int .i64 7)).below)
  rw [← hW7]
  clear hW7 hkp hi7
  have HKK : Hid (∀ W, Sl W Any 5 (some ⟨b3, 0, none⟩) 6 6 ((prW (dW false) (eW true) a b).flatMap insZC) → Calls Try.prog 12 #[.agg #[.int .i64 0, .slice (some ⟨b3, 0, none⟩) 6 6]] W fun e w' => ∃ g, e = .returned (.tuple #[.slice (some ⟨g, 0, none⟩) 6 6, .int .i64 0]) ∧ KsB w' g 6 (kOf (knownZ 0 (prW (dW false) (eW true) a b))) ∧ Below W.heap.size W w') := Lib.hid (fun W h => (known_ok W 0 (some ⟨b3, 0, none⟩) 6 (prW (dW false) (eW true) a b) h (by simp [prW])).mono (by
    rintro e w' ⟨⟨v, rfl, hv⟩, hb⟩
    obtain ⟨K, hK⟩ := HK0.out
    rw [hK] at hv ⊢
    obtain ⟨g, h1, h2, h3⟩ := hv
    exact ⟨g, by rw [h2]; rfl, h3, hb⟩))
  have HSL := Lib.hid (sl_blk (n := 6) HI7.out (pr := prW (dW false) (eW true) a b) rfl (by decide) (fun j hj => rfl))
  have p0 : W7.cell? ⟨b3 + 1, 0, none⟩ = some (.int .i64 0) := HP7.out.cell 0 (by omega)
  have p1 : W7.cell? ⟨b3 + 1, 1, none⟩ = some (.slice (some ⟨b3, 0, none⟩) 6 6) := HP7.out.cell 1 (by omega)
  go_upto_region 8 with (go_at_call 12; (with_reducible refine (HKK.out _ HSL.out).mono ?_); rintro e' W8 ⟨g, rfl, hks, hb8⟩; have HB8 := Lib.hid hb8; have HKS := Lib.hid hks; clear hb8 hks)
  clear p0 p1
  have HS8 := Lib.hid (HS7.out.below HB8.out)
  have HB8w := Lib.hid (HB7.out.trans (HB8.out.mono HB7.out.size))
  have k0 : W8.cell? ⟨w.heap.size, 0, none⟩ = some (.bool false) := HS8.out.cell 0 (by simp)
  have k1 : W8.cell? ⟨w.heap.size, 1, none⟩ = some (.bool true) := HS8.out.cell 1 (by simp)
  have hz8 : w.heap.size < W8.heap.size := Blk.lt HS8.out
  have r0 : W8.cell? ⟨g, 174, none⟩ = some (.bool false) := by
    have := Blk.cell HKS.out 174 (by omega)
    rw [show knsF (kOf (knownZ 0 (prW (dW false) (eW true) a b))) 174 = .bool (((kOf (knownZ 0 (prW (dW false) (eW true) a b)) 5).r 6).s) from rfl, HV0.out] at this
    exact this
  have r1 : W8.cell? ⟨g, 175, none⟩ = some (.int .u32 0) := by
    have := Blk.cell HKS.out 175 (by omega)
    rw [show knsF (kOf (knownZ 0 (prW (dW false) (eW true) a b))) 175 = .int .u32 (((kOf (knownZ 0 (prW (dW false) (eW true) a b)) 5).r 6).l : Int) from rfl, HV0.out] at this
    skip
    exact this
  have r2 : W8.cell? ⟨g, 176, none⟩ = some (.int .u32 0) := by
    have := Blk.cell HKS.out 176 (by omega)
    rw [show knsF (kOf (knownZ 0 (prW (dW false) (eW true) a b))) 176 = .int .u32 (((kOf (knownZ 0 (prW (dW false) (eW true) a b)) 5).r 6).g : Int) from rfl, HV0.out] at this
    skip
    exact this
  go_wp2_with (go_at_call 11; (with_reducible refine (HKN.out _).mono ?_); rintro e' W9 ⟨rfl, hb9⟩; have HB9 := Lib.hid hb9; clear hb9)
  go_ret
  exact ⟨rfl, HB8w.out.trans ((((Below.refl W8.heap.size W8).alloc (Nat.le_refl _) _).trans (HB9.out.mono (by simp))).mono HB8w.out.size)⟩

set_option maxRecDepth 100000 in
set_option maxHeartbeats 1000000 in
theorem ways_false_false (w : World) (a b : Nat) (ha : a < 4294967296) (hb : b < 4294967296) : Calls Try.prog 10 #[.int .u32 (a : Int), .int .u32 (b : Int), .agg #[.bool false, .bool false]] w fun e w' => e = .returned (.bool true) ∧ Below w.heap.size w w' := by
  have HWA : Hid (∀ W : World, Calls Try.prog 23 #[.int .i64 1, .int .i64 6, .int .u32 (a : Int)] W fun e w' => e = .returned (.agg #[.int .i64 1, .int .i64 6, .int .i64 0, .int .i64 0, .int .u32 (a : Int)]) ∧ Below W.heap.size W w') := Lib.hid (fun W => ways1_ok W _ _ _)
  have HWB : Hid (∀ W : World, Calls Try.prog 23 #[.int .i64 1, .int .i64 6, .int .u32 (b : Int)] W fun e w' => e = .returned (.agg #[.int .i64 1, .int .i64 6, .int .i64 0, .int .i64 0, .int .u32 (b : Int)]) ∧ Below W.heap.size W w') := Lib.hid (fun W => ways1_ok W _ _ _)
  obtain ⟨hk0, hv0⟩ := prW_known false false a b ha hb
  have HK0 := Lib.hid hk0; have HV0 := Lib.hid hv0; clear hk0 hv0
  have HKN := Lib.hid lawknown_ok
  have hb0 : Below w.heap.size w (w.alloc (.cells #[.bool false, .bool false] 68)) := (Below.refl _ _).alloc (Nat.le_refl _) _
  have HS0 := Lib.hid (Blk.lit w 68 #[.bool false, .bool false])
  have HB0 := Lib.hid hb0; clear hb0
  go_enter Try.func10, Try.ntmps10
  go_upto_region 3 with (go_at_call 23; first | ((with_reducible refine (HWA.out _).mono ?_); rintro e' W2 ⟨rfl, hb2⟩; have HB2 := Lib.hid hb2; clear hb2) | ((with_reducible refine (HWB.out _).mono ?_); rintro e' W3 ⟨rfl, hb3⟩; have HB3 := Lib.hid hb3; clear hb3))
  obtain ⟨Wp, HWP, HBP, HIB0, HPB0⟩ := ways_world W3 a b
  rw [← HWP.out]
  have hbw : Below w.heap.size w W3 := (HB0.out.trans (HB2.out.mono HB0.out.size)).trans (HB3.out.mono (HB0.out.trans (HB2.out.mono HB0.out.size)).size)
  have HS3 := Lib.hid ((HS0.out.below HB2.out).below HB3.out)
  have hz : w.heap.size < W3.heap.size := Blk.lt HS3.out
  obtain ⟨b3, hb3⟩ : ∃ b3, b3 = W3.heap.size := ⟨_, rfl⟩
  have HBW := Lib.hid (hbw.trans (HBP.out.mono hbw.size))
  have HSP := Lib.hid (HS3.out.below HBP.out)
  rw [← hb3] at HIB0 HPB0 hz ⊢
  have HIB := HIB0; have HPB := HPB0
  clear hbw hb3
  have k0 : Wp.cell? ⟨w.heap.size, 0, none⟩ = some (.bool false) := HSP.out.cell 0 (by simp)
  have k1 : Wp.cell? ⟨w.heap.size, 1, none⟩ = some (.bool false) := HSP.out.cell 1 (by simp)
  have p0 : Wp.cell? ⟨b3 + 1, 0, none⟩ = some (.int .i64 0) := HPB.out.cell 0 (by omega)
  have p1 : Wp.cell? ⟨b3 + 1, 1, none⟩ = some (.slice (some ⟨b3, 0, none⟩) 6 6) := HPB.out.cell 1 (by omega)
  have i11 : Wp.cell? ⟨b3, 11, none⟩ = some (.int .i64 6) := HIB.out.cell 11 (by omega)
  have i21 : Wp.cell? ⟨b3, 21, none⟩ = some (.int .i64 6) := HIB.out.cell 21 (by omega)
  have f11 : Wp.frozen? ⟨b3, 11, none⟩ = false := Blk.frozen HIB.out 11
  have f21 : Wp.frozen? ⟨b3, 21, none⟩ = false := Blk.frozen HIB.out 21
  go_upto_region 7 with fail
  clear k0 k1 p0 p1 i11 i21 f11 f21
  obtain ⟨W7, hW7⟩ : ∃ W7, W7 = ((Wp.setCell ⟨b3, 11, none⟩ (.int .i64 7)).setCell ⟨b3, 21, none⟩ (.int .i64 8)) := ⟨_, rfl⟩
  have hkp : Kp (fun k => k = b3) Wp W7 := by rw [hW7]; exact ((Kp.refl (fun k => k = b3) Wp).setCell (p := ⟨b3, 11, none⟩) (.inl rfl) _).setCell (p := ⟨b3, 21, none⟩) (.inl rfl) _
  have hi7 : Blk W7 b3 45 30 (fun j => ((prW (dW false) (eW false) a b).flatMap insZC).getD j undef) := by
    rw [hW7]
    refine ((HIB.out.set 11 (.int .i64 7)).set 21 (.int .i64 8)).congr (fun j hj => ?_)
    have hl : ((prW (dW false) (eW false) a b).flatMap insZC) = (((litW a b).set 11 (.int .i64 7)).set 21 (.int .i64 8)) := rfl
    rw [hl]
    rw [getD_set _ _ _ _ (by first | simp [litW] | (rw [List.length_set]; simp [litW])), getD_set _ _ _ _ (by first | simp [litW] | (rw [List.length_set]; simp [litW]))]
  have HI7 := Lib.hid hi7
  have HP7 := Lib.hid (HPB.out.keep hkp (by omega))
  have HS7 := Lib.hid (HSP.out.keep hkp (by omega))
  have HB7 : Hid (Below w.heap.size w W7) := Lib.hid (show Below w.heap.size w W7 from by rw [hW7]; exact (((Kp.of_below HBW.out No).setCell (p := ⟨b3, 11, none⟩) (.inr (by show w.heap.size ≤ b3; omega)) (.int .i64 7)).setCell (p := ⟨b3, 21, none⟩) (.inr (by show w.heap.size ≤ b3; omega)) (.int .i64 8)).below)
  rw [← hW7]
  clear hW7 hkp hi7
  have HKK : Hid (∀ W, Sl W Any 5 (some ⟨b3, 0, none⟩) 6 6 ((prW (dW false) (eW false) a b).flatMap insZC) → Calls Try.prog 12 #[.agg #[.int .i64 0, .slice (some ⟨b3, 0, none⟩) 6 6]] W fun e w' => ∃ g, e = .returned (.tuple #[.slice (some ⟨g, 0, none⟩) 6 6, .int .i64 0]) ∧ KsB w' g 6 (kOf (knownZ 0 (prW (dW false) (eW false) a b))) ∧ Below W.heap.size W w') := Lib.hid (fun W h => (known_ok W 0 (some ⟨b3, 0, none⟩) 6 (prW (dW false) (eW false) a b) h (by simp [prW])).mono (by
    rintro e w' ⟨⟨v, rfl, hv⟩, hb⟩
    obtain ⟨K, hK⟩ := HK0.out
    rw [hK] at hv ⊢
    obtain ⟨g, h1, h2, h3⟩ := hv
    exact ⟨g, by rw [h2]; rfl, h3, hb⟩))
  have HSL := Lib.hid (sl_blk (n := 6) HI7.out (pr := prW (dW false) (eW false) a b) rfl (by decide) (fun j hj => rfl))
  have p0 : W7.cell? ⟨b3 + 1, 0, none⟩ = some (.int .i64 0) := HP7.out.cell 0 (by omega)
  have p1 : W7.cell? ⟨b3 + 1, 1, none⟩ = some (.slice (some ⟨b3, 0, none⟩) 6 6) := HP7.out.cell 1 (by omega)
  go_upto_region 8 with (go_at_call 12; (with_reducible refine (HKK.out _ HSL.out).mono ?_); rintro e' W8 ⟨g, rfl, hks, hb8⟩; have HB8 := Lib.hid hb8; have HKS := Lib.hid hks; clear hb8 hks)
  clear p0 p1
  have HS8 := Lib.hid (HS7.out.below HB8.out)
  have HB8w := Lib.hid (HB7.out.trans (HB8.out.mono HB7.out.size))
  have k0 : W8.cell? ⟨w.heap.size, 0, none⟩ = some (.bool false) := HS8.out.cell 0 (by simp)
  have k1 : W8.cell? ⟨w.heap.size, 1, none⟩ = some (.bool false) := HS8.out.cell 1 (by simp)
  have hz8 : w.heap.size < W8.heap.size := Blk.lt HS8.out
  have r0 : W8.cell? ⟨g, 174, none⟩ = some (.bool false) := by
    have := Blk.cell HKS.out 174 (by omega)
    rw [show knsF (kOf (knownZ 0 (prW (dW false) (eW false) a b))) 174 = .bool (((kOf (knownZ 0 (prW (dW false) (eW false) a b)) 5).r 6).s) from rfl, HV0.out] at this
    exact this
  have r1 : W8.cell? ⟨g, 175, none⟩ = some (.int .u32 0) := by
    have := Blk.cell HKS.out 175 (by omega)
    rw [show knsF (kOf (knownZ 0 (prW (dW false) (eW false) a b))) 175 = .int .u32 (((kOf (knownZ 0 (prW (dW false) (eW false) a b)) 5).r 6).l : Int) from rfl, HV0.out] at this
    skip
    exact this
  have r2 : W8.cell? ⟨g, 176, none⟩ = some (.int .u32 0) := by
    have := Blk.cell HKS.out 176 (by omega)
    rw [show knsF (kOf (knownZ 0 (prW (dW false) (eW false) a b))) 176 = .int .u32 (((kOf (knownZ 0 (prW (dW false) (eW false) a b)) 5).r 6).g : Int) from rfl, HV0.out] at this
    skip
    exact this
  go_wp2_with (go_at_call 11; (with_reducible refine (HKN.out _).mono ?_); rintro e' W9 ⟨rfl, hb9⟩; have HB9 := Lib.hid hb9; clear hb9)
  go_ret
  exact ⟨rfl, HB8w.out.trans ((((Below.refl W8.heap.size W8).alloc (Nat.le_refl _) _).trans (HB9.out.mono (by simp))).mono HB8w.out.size)⟩

theorem checkways_ok (w : World) (a b : Nat) (ha : a < 4294967296) (hb : b < 4294967296) (s0 s1 : Bool) : Calls Try.prog 10 #[.int .u32 (a : Int), .int .u32 (b : Int), .agg #[.bool s0, .bool s1]] w fun e w' => e = .returned (.bool true) ∧ Below w.heap.size w w' := by
  cases s0 <;> cases s1
  · exact ways_false_false w a b ha hb
  · exact ways_false_true w a b ha hb
  · exact ways_true_false w a b ha hb
  · exact ways_true_true w a b ha hb
end Go.Proofs.Ytjlddhnjbjhmkaa
