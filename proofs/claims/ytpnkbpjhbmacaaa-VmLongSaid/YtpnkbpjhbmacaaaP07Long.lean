/- VmLong, for every input: it returns true, and each argument reads afterwards as it read before. No condition. -/
import Derived.Test.YtpnkbpjhbmacaaaRow07
import Derived.Test.YtpnkbpjhbmacaaaVl4
set_option linter.unusedVariables false
set_option linter.unusedSimpArgs false
namespace Go.Proofs.Ytpnkbpjhbmacaaa
section
open Go.RowKit
def longP (a b : Nat) (i : InsZ) (k : Nat) : List InsZ := [⟨1, 0, 0, 0, a⟩, ⟨1, 1, 0, 0, b⟩, ⟨1, 2, 0, 0, 2⟩] ++ List.replicate k i
theorem longP_succ (a b : Nat) (i : InsZ) (k : Nat) : longP a b i k ++ [i] = longP a b i (k + 1) := by
  unfold longP
  rw [List.append_assoc, List.replicate_succ']
theorem ins_new (w5 : World) (i : InsZ) : Sl (w5.alloc (.cells #[.int .i64 i.op, .int .i64 i.dst, .int .i64 i.src, .int .i64 i.off, .int .u32 (i.imm : Int)] 50)) Any 5 (some ⟨w5.heap.size, 0, none⟩) 1 1 ([i].flatMap insZC) := Sl.lit w5 50 5 #[.int .i64 i.op, .int .i64 i.dst, .int .i64 i.src, .int .i64 i.off, .int .u32 (i.imm : Int)] 1 (by simp [maxLen]) rfl
theorem long_runs {w W : World} {g : Nat} {A : Option Addr} {c n : Nat} {xs : List InsZ} {a b : Nat} (h : PB w g 4 (.slice A n c) xs W) (hn : n = xs.length) (ha : a < 4294967296) (hb : b < 4294967296) :
    Calls Try.prog 4 #[.agg #[.int .i64 4, .slice A n c], .slice (some ⟨W.heap.size, 0, none⟩) 4 4, .slice (some ⟨W.heap.size + 1, 0, none⟩) 2 2] ((W.alloc (.cells #[.int .u8 1, .int .u8 2, .int .u8 3, .int .u8 250] 5)).alloc (.cells #[.int .u32 (b : Int), .int .u32 (a : Int)] 30)) fun e w' => e = .returned (.bool true) ∧ Below w.heap.size w w' := by
  subst hn
  have e : (W.alloc (.cells #[.int .u8 1, .int .u8 2, .int .u8 3, .int .u8 250] 5)).heap.size = W.heap.size + 1 := by simp
  have h2 := (h.below ((Below.refl _ _).alloc (Nat.le_refl _) (.cells #[.int .u8 1, .int .u8 2, .int .u8 3, .int .u8 250] 5))).below ((Below.refl _ _).alloc (Nat.le_refl _) (.cells #[.int .u32 (b : Int), .int .u32 (a : Int)] 30))
  have hx : By ((W.alloc (.cells #[.int .u8 1, .int .u8 2, .int .u8 3, .int .u8 250] 5)).alloc (.cells #[.int .u32 (b : Int), .int .u32 (a : Int)] 30)) Any (some ⟨W.heap.size, 0, none⟩) 4 4 [1, 2, 3, 250] := (Sl.lit W 5 1 #[.int .u8 1, .int .u8 2, .int .u8 3, .int .u8 250] 4 (by simp [maxLen]) rfl).move (Mv.alloc Any _ _)
  have hy : Wd ((W.alloc (.cells #[.int .u8 1, .int .u8 2, .int .u8 3, .int .u8 250] 5)).alloc (.cells #[.int .u32 (b : Int), .int .u32 (a : Int)] 30)) Any (some ⟨W.heap.size + 1, 0, none⟩) 2 2 [b, a] := by
    rw [← e]; exact Sl.lit _ 30 1 #[.int .u32 (b : Int), .int .u32 (a : Int)] 2 (by simp [maxLen]) rfl
  exact h2.runs [1, 2, 3, 250] _ 4 hx _ 2 [b, a] hy (by intro v hv; simp at hv; rcases hv with rfl | rfl <;> assumption)
theorem longP_len (a b : Nat) (i : InsZ) (k : Nat) : (longP a b i k).length = k + 3 := by simp [longP]
set_option maxRecDepth 100000 in
set_option maxHeartbeats 2000000 in
theorem vmlong_ok (w : World) (i : InsZ) (hi : i.imm < 4294967296) (n : Int) (a b : Nat) (ha : a < 4294967296) (hb : b < 4294967296) :
    Calls Try.prog 10 #[insZV i, .int .i64 n, .agg #[.int .u32 (a : Int), .int .u32 (b : Int)]] w fun e w' => e = .returned (.bool true) ∧ Below w.heap.size w w' := by
  have HKN := Lib.hid known_ok
  obtain ⟨W1, hW1⟩ : ∃ W1, W1 = (w.alloc (.cells #[.int .i64 i.op, .int .i64 i.dst, .int .i64 i.src, .int .i64 i.off, .int .u32 (i.imm : Int)] 50)).alloc (.cells #[.int .u32 (a : Int), .int .u32 (b : Int)] 54) := ⟨_, rfl⟩
  have hb1 : Below w.heap.size w W1 := by rw [hW1]; exact ((Below.refl _ _).alloc (Nat.le_refl _) _).alloc (by simp) _
  have hz1 : w.heap.size + 2 ≤ W1.heap.size := by rw [hW1]; simp
  have hB1 : Blk W1 w.heap.size 50 5 (fun j => #[.int .i64 i.op, .int .i64 i.dst, .int .i64 i.src, .int .i64 i.off, .int .u32 (i.imm : Int)].getD j undef) := by rw [hW1]; exact (Blk.lit w 50 #[.int .i64 i.op, .int .i64 i.dst, .int .i64 i.src, .int .i64 i.off, .int .u32 (i.imm : Int)]).below ((Below.refl _ _).alloc (Nat.le_refl _) _)
  have hD1 : Blk W1 (w.heap.size + 1) 54 2 (fun j => (#[.int .u32 (a : Int), .int .u32 (b : Int)] : Array Value).getD j undef) := by
    have := Blk.lit (w.alloc (.cells #[.int .i64 i.op, .int .i64 i.dst, .int .i64 i.src, .int .i64 i.off, .int .u32 (i.imm : Int)] 50)) 54 #[.int .u32 (a : Int), .int .u32 (b : Int)]
    rw [hW1]
    simpa using this
  have k0 := hB1.cell 0 (by omega)
  have k1 := hB1.cell 1 (by omega)
  have k2 := hB1.cell 2 (by omega)
  have k3 := hB1.cell 3 (by omega)
  have k4 := hB1.cell 4 (by omega)
  simp at k0 k1 k2 k3 k4
  obtain ⟨mb, hmb⟩ : ∃ mb, mb = mayB i := ⟨_, rfl⟩
  have hmay : ∀ W : World, Calls Try.prog 19 #[.agg #[.int .i64 i.op, .int .i64 i.dst, .int .i64 i.src, .int .i64 i.off, .int .u32 (i.imm : Int)]] W fun e w' => e = .returned (.bool mb) ∧ Below W.heap.size W w' := fun W => by rw [hmb]; exact mayr_any W i hi
  clear hmb
  have HMY := Lib.hid hmay; clear hmay
  have HW1 := Lib.hid hW1; clear hW1
  have HB1 := Lib.hid hb1; clear hb1
  have HI := Lib.hid hi; clear hi
  have HBB := Lib.hid hB1; have HDD := Lib.hid hD1; clear hB1 hD1
  have HAB := Lib.hid (And.intro ha hb)
  unfold insZV
  cases mb with
  | false =>
    clear ha hb
    go_enter Try.func10, Try.ntmps10
    go_upto_region 1 with fail
    rw [← HW1.out]
    go_wp2_with (first | (go_at_call 19; (with_reducible refine (HMY.out _).mono ?_); rintro e W2 ⟨rfl, hb2⟩; have HB2 := Lib.hid (HB1.out.trans (hb2.mono HB1.out.size)); clear hb2) | (go_at_call 12; (with_reducible refine (HKN.out _).mono ?_); rintro e W10 ⟨rfl, hb10⟩; have HB10 := Lib.hid hb10; clear hb10))
    go_ret
    exact ⟨rfl, HB2.out.trans (HB10.out.mono HB2.out.size)⟩
  | true =>
    by_cases hn0 : n < 0
    · go_enter Try.func10, Try.ntmps10
      go_upto_region 1 with fail
      rw [← HW1.out]
      go_wp2_with (first | (go_at_call 19; (with_reducible refine (HMY.out _).mono ?_); rintro e W2 ⟨rfl, hb2⟩; have HB2 := Lib.hid (HB1.out.trans (hb2.mono HB1.out.size)); clear hb2) | (go_at_call 12; (with_reducible refine (HKN.out _).mono ?_); rintro e W10 ⟨rfl, hb10⟩; have HB10 := Lib.hid hb10; clear hb10))
      go_ret
      exact ⟨rfl, HB2.out.trans (HB10.out.mono HB2.out.size)⟩
    by_cases hn1 : 250 < n
    · go_enter Try.func10, Try.ntmps10
      go_upto_region 1 with fail
      rw [← HW1.out]
      go_wp2_with (first | (go_at_call 19; (with_reducible refine (HMY.out _).mono ?_); rintro e W2 ⟨rfl, hb2⟩; have HB2 := Lib.hid (HB1.out.trans (hb2.mono HB1.out.size)); clear hb2) | (go_at_call 12; (with_reducible refine (HKN.out _).mono ?_); rintro e W10 ⟨rfl, hb10⟩; have HB10 := Lib.hid hb10; clear hb10))
      go_ret
      exact ⟨rfl, HB2.out.trans (HB10.out.mono HB2.out.size)⟩
    obtain ⟨N, rfl⟩ := Int.eq_ofNat_of_zero_le (show 0 ≤ n by omega)
    have hN : N ≤ 250 := by omega
    go_enter Try.func10, Try.ntmps10
    go_upto_region 1 with fail
    rw [← HW1.out]
    go_upto_region 3 with (go_at_call 19; (with_reducible refine (HMY.out _).mono ?_); rintro e W2 ⟨rfl, hb2⟩; have HB2 := Lib.hid (HB1.out.trans (hb2.mono HB1.out.size)); have HBB2 := Lib.hid (HBB.out.below hb2); have HDD2 := Lib.hid (HDD.out.below hb2); have hz2 : w.heap.size + 2 ≤ W2.heap.size := Nat.le_trans hz1 hb2.size; clear hb2)
    clear k0 k1 k2 k3 k4
    have d0 := HDD2.out.cell 0 (by omega)
    have d1 := HDD2.out.cell 1 (by omega)
    simp at d0 d1
    have hP := PB.lit2 (w := W2) (W := W2) (z := W2.heap.size) rfl (Below.refl _ _) 4 (longP a b i 0) #[.int .i64 1, .int .i64 0, .int .i64 0, .int .i64 0, .int .u32 (a : Int), .int .i64 1, .int .i64 1, .int .i64 0, .int .i64 0, .int .u32 (b : Int), .int .i64 1, .int .i64 2, .int .i64 0, .int .i64 0, .int .u32 2] 3 rfl rfl (by simp [longP]) (by intro j hj; simp only [longP, List.replicate_zero, List.append_nil, List.mem_cons, List.not_mem_nil, or_false] at hj; rcases hj with rfl | rfl | rfl <;> first | exact ha | exact hb | simp)
    go_upto_region 4 with fail
    generalize hW3 : (W2.alloc (.cells #[.int .i64 1, .int .i64 0, .int .i64 0, .int .i64 0, .int .u32 (a : Int), .int .i64 1, .int .i64 1, .int .i64 0, .int .i64 0, .int .u32 (b : Int), .int .i64 1, .int .i64 2, .int .i64 0, .int .i64 0, .int .u32 2] 50)).alloc (.cells #[.int .i64 4, .slice (some ⟨W2.heap.size, 0, none⟩) 3 3] 24) = W3 at hP ⊢
    have HP := Lib.hid hP; clear hP hW3 d0 d1 ha hb
    obtain ⟨G, hG⟩ : ∃ G, G = W2.heap.size + 1 := ⟨_, rfl⟩
    rw [← hG] at HP ⊢
    have HG := Lib.hid hG; clear hG
    go_wp2
    go_loopw [8] (fun iv wr => ∃ k : Nat, k ≤ N ∧ iv = .int .i64 (k : Int) ∧ ∃ V, PB W2 G 4 V (longP a b i k) wr) (fun iv _ => N - (intOf iv).toNat)
    case atStart => exact ⟨0, Nat.zero_le _, rfl, _, HP.out⟩
    case round =>
      obtain ⟨k, hk, rfl, V, hp⟩ := hrel
      obtain ⟨VA, vc, rfl⟩ := own_shape hp.row
      obtain ⟨xs, hxs⟩ : ∃ xs, xs = longP a b i k := ⟨_, rfl⟩
      have hxl : xs.length = k + 3 := by rw [hxs]; exact longP_len a b i k
      rw [← hxs] at hp
      have HX := Lib.hid hxs; clear hxs
      have HP1 := Lib.hid hp; clear hp
      have HL := Lib.hid hxl
      by_cases hlt : k < N
      · have hlt' : (k : Int) < N := by omega
        have kb := HBB2.out.keep (M := No) (Kp.of_below HP1.out.b No) (fun e => e)
        have k0 := kb.cell 0 (by omega)
        have k1 := kb.cell 1 (by omega)
        have k2 := kb.cell 2 (by omega)
        have k3 := kb.cell 3 (by omega)
        have k4 := kb.cell 4 (by omega)
        simp at k0 k1 k2 k3 k4
        have c1 := HP1.out.c1
        have HPY := Lib.hid (HP1.out.below ((Below.refl _ _).alloc (Nat.le_refl _) (.cells #[.int .i64 i.op, .int .i64 i.dst, .int .i64 i.src, .int .i64 i.off, .int .u32 (i.imm : Int)] 50)))
        have HSY := Lib.hid (ins_new wr i)
        clear kb hxl
        have hxl2 : xs.length ≤ 300 := by have := HL.out; omega
        go_wp2_with (refine wpList_append_sl _ rfl (.tmp 36) (.tmp 38) _ rfl W2.heap.size 50 _ 5 40 Try.underlying22 info_ins rfl (by omega) (by omega) (.slice VA xs.length vc) (xs.length) (xs.flatMap insZC) rfl HPY.out.row (some ⟨wr.heap.size, 0, none⟩) 1 1 ([i].flatMap insZC) rfl HSY.out (insZ_one _) (by omega) (by have := HPY.out.b.size; exact this) ?_; intro v6 w6 hown6 hg6 hat6; obtain ⟨VB, vb, rfl⟩ := own_shape hown6; obtain ⟨gc, gf⟩ := HPY.out.grown hg6; have HP6 := Lib.hid (HPY.out.more [i] rfl rfl (by intro j hj; rw [List.mem_singleton.1 hj]; exact HI.out) hown6 hg6 hat6); clear hown6 hg6 hat6)
        go_roundw
        case rel => exact ⟨k + 1, by omega, by go_num, _, by have h8 := HP6.out; rw [show xs ++ [i] = longP a b i (k + 1) from by rw [HX.out, longP_succ]] at h8; exact h8⟩
        case measure => simp [intOf]; omega
      · obtain rfl : k = N := by omega
        have hlt' : ¬ (k : Int) < k := by omega
        have c1 := HP1.out.c1
        have HPY := Lib.hid (HP1.out.below ((Below.refl _ _).alloc (Nat.le_refl _) (.cells #[.int .i64 24, .int .i64 0, .int .i64 0, .int .i64 0, .int .u32 0] 50)))
        have HSY : Hid (Sl (wr.alloc (.cells #[.int .i64 24, .int .i64 0, .int .i64 0, .int .i64 0, .int .u32 0] 50)) Any 5 (some ⟨wr.heap.size, 0, none⟩) 1 1 ([(⟨24, 0, 0, 0, 0⟩ : InsZ)].flatMap insZC)) := Lib.hid (ins_new wr ⟨24, 0, 0, 0, 0⟩)
        clear hxl
        have hxl2 : xs.length ≤ 300 := by have := HL.out; omega
        go_upto_region 9 with (refine wpList_append_sl _ rfl (.tmp 42) (.tmp 44) _ rfl W2.heap.size 50 _ 5 40 Try.underlying22 info_ins rfl (by omega) (by omega) (.slice VA xs.length vc) (xs.length) (xs.flatMap insZC) rfl HPY.out.row (some ⟨wr.heap.size, 0, none⟩) 1 1 ([(⟨24, 0, 0, 0, 0⟩ : InsZ)].flatMap insZC) rfl HSY.out (insZ_one _) (by omega) (by have := HPY.out.b.size; exact this) ?_; intro v6 w6 hown6 hg6 hat6; obtain ⟨VB, vb, rfl⟩ := own_shape hown6; obtain ⟨gc, gf⟩ := HPY.out.grown hg6; have HP6 := Lib.hid (HPY.out.more [⟨24, 0, 0, 0, 0⟩] rfl rfl (by intro j hj; rw [List.mem_singleton.1 hj]; simp) hown6 hg6 hat6); clear hown6 hg6 hat6)
        generalize hw7 : w6.setCell ⟨G, 1, none⟩ (.slice VB (xs.length + 1) vb) = w7 at HP6 ⊢
        clear hw7 gc gf c1
        have c0 := HP6.out.c0
        have c1 := HP6.out.c1
        have db := HDD2.out.keep (M := No) (Kp.of_below HP6.out.b No) (fun e => e)
        have d0 := db.cell 0 (by omega)
        have d1 := db.cell 1 (by omega)
        simp at d0 d1
        clear db
        have hz7 : G < w7.heap.size := HP6.out.gz
        have hz8 : w.heap.size + 1 < w7.heap.size := by have := HP6.out.b.size; omega
        have HRN := Lib.hid (long_runs HP6.out (by simp) HAB.out.1 HAB.out.2)
        go_wp2_with (go_at_call 4; (with_reducible refine HRN.out.mono ?_); rintro e W9 ⟨rfl, hb9⟩; have HB9 := Lib.hid hb9; clear hb9)
        go_ret
        exact ⟨rfl, HB2.out.trans (HB9.out.mono HB2.out.size)⟩
end
open Go.ChangeShapes Go.WideShapes Go.ChangeAt Go.RowKit Go.Deep
set_option maxRecDepth 100000

set_option maxRecDepth 100000 in
theorem vmLong_lifted (os : Os) (started : os.Started) (H : Type) (enc : TypeId × Value → H) :
    ReturnsInHanded {} Try.checked os 10 .any (Rows.vmLongSpec.pre6 enc Try.prog Try.f10 Rows.vmLongRow.domain false) (Rows.vmLongSpec.post enc Try.prog Try.f10 false true false false) := by
  refine returnsInHanded_of_change (C := Try.checked) own08 started (by kernel_rfl) Try.func10
    (ChangeSpec.witness6 (enc := enc) (C := Try.checked) false ⟨#[], #[.agg #[.int .i64 0, .int .i64 0, .int .i64 0, .int .i64 0, .int .u32 0], .int .i64 0, .agg #[.int .u32 0, .int .u32 0]], []⟩ 8 (by kernel_rfl) (by kernel_rfl) (by kernel_rfl) (by kernel_rfl)) ?_
  intro W base args ds gs before hval0 hW hcnd _
  have hval : ∀ (j : Nat) t v, Try.f10.params[j]? = some t → args[j]? = some v → Value.okWide Try.prog W .any base t v := hval0
  have hW' := hW
  obtain ⟨p, q, hA0, hV, rfl, hfz, hnd⟩ := hW
  have hA : DataW.TrodAll enc Try.prog W 0 (fun _ => true) true Try.f10.params.toList args.toList ds p := hA0
  rw [Try.params10] at hA hval
  obtain ⟨v0, vs0, d0, ds0, p0, q0, hargs, rfl, rfl, h0, r0⟩ := trodAll_cons hA
  obtain ⟨v1, vs1, d1, ds1, p1, q1, rfl, rfl, rfl, h1, r1⟩ := trodAll_cons r0
  obtain ⟨v2, vs2, d2, ds2, p2, q2, rfl, rfl, rfl, h2, r2⟩ := trodAll_cons r1
  obtain ⟨rfl, rfl, rfl⟩ := trodAll_nil r2
  obtain rfl : args = #[v0, v1, v2] := by cases args; simp_all
  obtain ⟨rfl, rfl⟩ := trodVars_none hV
  have k0h := h0
  have lt0 : ∀ x ∈ p0, x.block < W.heap.size := by obtain ⟨m, hm⟩ := k0h; exact DataW.trod_lt m _ _ _ hm
  have k1h := h1
  have lt1 : ∀ x ∈ p1, x.block < W.heap.size := by obtain ⟨m, hm⟩ := k1h; exact DataW.trod_lt m _ _ _ hm
  have k2h := h2
  have lt2 : ∀ x ∈ p2, x.block < W.heap.size := by obtain ⟨m, hm⟩ := k2h; exact DataW.trod_lt m _ _ _ hm
  obtain ⟨i0, rfl, m0⟩ := ins_in (hval 0 _ v0 rfl rfl) h0
  obtain ⟨a1, rfl, rfl, rfl, w1⟩ := open_int Try.underlying3 (hval 1 _ v1 rfl rfl) h1
  obtain ⟨a2, b2, rfl, m2, n2⟩ := two_in (hval 2 _ v2 rfl rfl) h2
  clear hA0 hval0
  refine (vmlong_ok W i0 m0 a1 a2 b2 m2 n2).mono fun e W' ⟨he, bel⟩ => ?_
  subst he
  exact ⟨_, rfl, _, _, _, [], _, [], hW', trodAll_mk1 (shut_bool Try.underlying4 _), (trodAll_cons_mk (Below.trod laidOut08 (by kernel_rfl) (of_decide_eq_true (by kernel_rfl)) k0h bel lt0) (trodAll_cons_mk (Below.trod laidOut08 (by kernel_rfl) (of_decide_eq_true (by kernel_rfl)) k1h bel lt1) (trodAll_cons_mk (Below.trod laidOut08 (by kernel_rfl) (of_decide_eq_true (by kernel_rfl)) k2h bel lt2) trodAll_mk0))), rfl, bel.frame _, fun h => by cases h⟩

theorem vmLong_over : Rows.vmLongRow.holds Try.pinned (OpenSpec.ofChange Rows.vmLongSpec) :=
  OpenClaim.holds_of_wide 10 Try.f10 rfl rfl rfl rfl rfl rfl rfl ⟨rfl, rfl, rfl, rfl, rfl⟩ rfl rfl rfl rfl rfl (by kernel_rfl) Try.func10 (by kernel_rfl)
    (of_decide_eq_true (by kernel_rfl)) (by unfold Func.isWrapper; first | (rw [if_pos (by decide +kernel)]; kernel_rfl) | (rw [if_neg (by decide +kernel)]; exact ⟨rfl, rfl⟩))
    (fun os started H enc _ => vmLong_lifted os started H enc)

theorem vmLong_holds : Rows.VmLongSaid := vmLong_over
end Go.Proofs.Ytpnkbpjhbmacaaa
