/- VmFaults, for every input: it returns true, and each argument reads afterwards as it read before. No condition. -/
import Derived.Test.YtpnkbpjhbmacaaaRow07
import Derived.Test.YtpnkbpjhbmacaaaVl4
set_option linter.unusedVariables false
set_option linter.unusedSimpArgs false
namespace Go.Proofs.Ytpnkbpjhbmacaaa
section
open Go.RowKit
theorem run_makeB7 (n : Nat) (hn : n ≤ 281474976710656) (W : World) : (Instr.makeSlice 25 (.int .i64 (n : Int)) (.int .i64 (n : Int))).run Try.prog W = .ok (.slice (some ⟨W.heap.size, 0, none⟩) n n) (W.alloc (.cells (List.replicate n (Value.int .u8 0)).toArray 5)) := by
  obtain ⟨i, hi, hzz⟩ := Option.map_eq_some_iff.1 info_u8
  simp only [Prod.mk.injEq] at hzz
  obtain ⟨hz0, hz1, hz2⟩ := hzz
  have := run_make (P := Try.prog) W 25 5 i (.int .u8 0) Try.underlying25 hi hz0 .i64 .i64 n n (by omega) (by omega) (by rw [hz2]; omega) (by omega)
  rw [this]
  simp only [Int.toNat_natCast, hz1, Nat.mul_one]
  have e : madeCells (Value.int .u8 0).cells n = (List.replicate n (Value.int .u8 0)).toArray := by
    apply Array.toList_inj.1
    exact toList_madeCells_one _ n
  rw [e]
theorem insZ_take (m : Nat) : ∀ (xs : List InsZ), (xs.take m).flatMap insZC = (xs.flatMap insZC).take (m * 5) := by
  induction m with
  | zero => intro xs; simp
  | succ m ih =>
    intro xs
    cases xs with
    | nil => simp
    | cons x xs =>
      rw [List.take_succ_cons, List.flatMap_cons, List.flatMap_cons, ih xs, show (m + 1) * 5 = (insZC x).length + m * 5 from by simp [insZC]; omega, List.take_length_add_append]
theorem laid_by {w3 : World} {base g N : Nat} {l : List UInt8} {k : Nat} (hk : k ≤ N) (hkl : k ≤ l.length) (h : w3.ownsRow base 5 1 (.slice (some ⟨g, 0, none⟩) N N) N (splice (List.replicate N (Value.int .u8 0)) 0 ((bv l).take k))) :
    ∃ l2 : List UInt8, l2.length = N ∧ By w3 (fun b => base ≤ b) (some ⟨g, 0, none⟩) N N l2 := by
  obtain ⟨A2, c2, he, hs⟩ := Sl.of_own (ok := fun b => base ≤ b) h (fun k hk _ => (h.lt k hk).1)
  injection he with e1 e2 e3
  subst e1; subst e3
  refine ⟨l.take k ++ List.replicate (N - k) 0, by simp; omega, ?_⟩
  have e : splice (List.replicate N (Value.int .u8 0)) 0 ((bv l).take k) = bv (l.take k ++ List.replicate (N - k) 0) := by
    unfold splice bv
    simp [List.map_take]
    rw [Nat.min_eq_left hkl]
  rw [e] at hs
  exact hs
set_option maxRecDepth 100000 in
set_option maxHeartbeats 2000000 in
theorem vmfaults_ok (w : World) (ctx : Int) (IA : Option Addr) (ic : Nat) (pr : List InsZ) (hin : Sl w Any 5 IA pr.length ic (pr.flatMap insZC)) (him : ∀ i, i ∈ pr → i.imm < 4294967296)
    (cx : List UInt8) (CA : Option Addr) (cc : Nat) (hcx : By w Any CA cx.length cc cx) (n : Int) :
    Calls Try.prog 9 #[.agg #[.int .i64 ctx, .slice IA pr.length ic], .slice CA cx.length cc, .int .i64 n] w fun e w' => e = .returned (.bool true) ∧ Below w.heap.size w w' := by
  have HKN := Lib.hid known_ok
  have HIN := Lib.hid hin; have HIM := Lib.hid him; have HCX := Lib.hid hcx; clear hin him hcx
  by_cases h1 : 40 < pr.length
  · have h1' : (40 : Int) < pr.length := by omega
    go_enter Try.func9, Try.ntmps9
    go_wp2_with (go_at_call 12; (with_reducible refine (HKN.out _).mono ?_); rintro e W10 ⟨rfl, hb10⟩; have HB10 := Lib.hid hb10; clear hb10)
    go_ret
    exact ⟨rfl, ((Below.refl _ _).alloc (Nat.le_refl _) _).trans (HB10.out.mono (by simp))⟩
  have h1' : ¬ (40 : Int) < pr.length := by omega
  by_cases h2 : 300 < cx.length
  · have h2' : (300 : Int) < cx.length := by omega
    go_enter Try.func9, Try.ntmps9
    go_wp2_with (go_at_call 12; (with_reducible refine (HKN.out _).mono ?_); rintro e W10 ⟨rfl, hb10⟩; have HB10 := Lib.hid hb10; clear hb10)
    go_ret
    exact ⟨rfl, ((Below.refl _ _).alloc (Nat.le_refl _) _).trans (HB10.out.mono (by simp))⟩
  have h2' : ¬ (300 : Int) < cx.length := by omega
  by_cases h3 : n < 0
  · go_enter Try.func9, Try.ntmps9
    go_wp2_with (go_at_call 12; (with_reducible refine (HKN.out _).mono ?_); rintro e W10 ⟨rfl, hb10⟩; have HB10 := Lib.hid hb10; clear hb10)
    go_ret
    exact ⟨rfl, ((Below.refl _ _).alloc (Nat.le_refl _) _).trans (HB10.out.mono (by simp))⟩
  by_cases h4 : ctx < 0
  · go_enter Try.func9, Try.ntmps9
    go_wp2_with (go_at_call 12; (with_reducible refine (HKN.out _).mono ?_); rintro e W10 ⟨rfl, hb10⟩; have HB10 := Lib.hid hb10; clear hb10)
    go_ret
    exact ⟨rfl, ((Below.refl _ _).alloc (Nat.le_refl _) _).trans (HB10.out.mono (by simp))⟩
  by_cases h5 : 256 < ctx
  · go_enter Try.func9, Try.ntmps9
    go_wp2_with (go_at_call 12; (with_reducible refine (HKN.out _).mono ?_); rintro e W10 ⟨rfl, hb10⟩; have HB10 := Lib.hid hb10; clear hb10)
    go_ret
    exact ⟨rfl, ((Below.refl _ _).alloc (Nat.le_refl _) _).trans (HB10.out.mono (by simp))⟩
  obtain ⟨N, rfl⟩ := Int.eq_ofNat_of_zero_le (show 0 ≤ ctx by omega)
  obtain ⟨q, rfl⟩ := Int.eq_ofNat_of_zero_le (show 0 ≤ n by omega)
  have hN : N ≤ 256 := by omega
  have hmk := run_makeB7 N (by omega)
  obtain ⟨W1, hW1⟩ : ∃ W1, W1 = w.alloc (.cells #[.int .i64 (N : Int), .slice IA pr.length ic] 24) := ⟨_, rfl⟩
  have G1 : Lw w (.int .i64 (N : Int)) (.slice IA pr.length ic) W1 := by rw [hW1]; exact Lw.start w _ _
  have hB1 : Blk W1 w.heap.size 24 2 (fun j => if j = 0 then .int .i64 (N : Int) else .slice IA pr.length ic) := by
    rw [hW1]
    exact Blk.new w _ _ 2 rfl _ fun j hj => by
      have hc : j = 0 ∨ j = 1 := by omega
      rcases hc with rfl | rfl <;> rfl
  have hown := own_lit W1 5 1 (List.replicate N (Value.int .u8 0)).toArray N (by simp [maxLen]; omega) (by simp) W1.heap.size (Nat.le_refl _)
  have HO := Lib.hid hown; clear hown
  have G2 := G1.al (.cells (List.replicate N (Value.int .u8 0)).toArray 5)
  have hB2 := hB1.below ((Below.refl W1.heap.size W1).alloc (Nat.le_refl _) (.cells (List.replicate N (Value.int .u8 0)).toArray 5))
  have HCX2 := Lib.hid (Sl.move HCX.out (Mv.of_below G2.b Any))
  have c0 := G1.p0
  have c1 := G1.p1
  have HG2 := Lib.hid G2; have HG1 := Lib.hid G1; clear G1 G2
  have HBL := Lib.hid hB2; clear hB1 hB2
  have HW1 := Lib.hid hW1; clear hW1
  go_enter Try.func9, Try.ntmps9
  go_upto_region 1 with fail
  rw [← HW1.out]
  go_upto_region 5 with (refine wpList_copy_in rfl (.tmp 35) (.tmp 36) _ _ rfl 5 Try.underlying25 size_u8 W1.heap.size W1.heap.size N N 0 _ HO.out (some ⟨W1.heap.size, 0, none⟩) N N rfl (fun _ => rfl) (by omega) CA cx.length cc (bv cx) rfl HCX2.out (bv_one cx) (min cx.length N) rfl ?_; intro w3 hown3 hk3)
  obtain ⟨l2, hl2, hby⟩ := laid_by (by omega) (by omega) hown3
  clear hown3
  have hz1 := HG1.out.z
  have hB3 := HBL.out.keep hk3 (by omega)
  have hb3 : Below w.heap.size w w3 := ((Kp.of_below HG2.out.b No).trans hk3 (fun b hb e => by omega)).below
  have HB3 := Lib.hid hb3; clear hb3
  have hz3 : w.heap.size + 1 ≤ w3.heap.size := by have := hk3.size; simp at this; omega
  clear c0 c1 hk3
  have c0 : w3.cell? ⟨w.heap.size, 0, none⟩ = some (.int .i64 (N : Int)) := hB3.cell 0 (by omega)
  have c1 : w3.cell? ⟨w.heap.size, 1, none⟩ = some (.slice IA pr.length ic) := hB3.cell 1 (by omega)
  have f1 := hB3.frozen 1
  have HB4 := Lib.hid hB3; clear hB3
  obtain ⟨m, hml, hmi⟩ : ∃ m : Nat, m ≤ pr.length ∧ (if pr.length < q then (pr.length : Int) else (q : Int)) = (m : Int) := by
    by_cases h : pr.length < q
    · exact ⟨pr.length, Nat.le_refl _, by rw [if_pos h]⟩
    · exact ⟨q, by omega, by rw [if_neg h]⟩
  have hic : pr.length ≤ ic := HIN.out.2.1
  have hcc := cut_h (P := Try.prog) 22 50 5 Try.underlying22 size_ins .i64 IA pr.length ic m (by omega)
  have hcut := hcc.1
  have HCC := Lib.hid hcc.2; clear hcc
  have HBY := Lib.hid hby; clear hby
  have HL2 := Lib.hid hl2; clear hl2
  go_upto_region 6 with fail
  have hk4 : Kp (fun b => b = w.heap.size) w3 (w3.setCell ⟨w.heap.size, 1, none⟩ (.slice IA m ic)) := (Kp.refl (fun b => b = w.heap.size) w3).setCell (p := ⟨w.heap.size, 1, none⟩) (.inl rfl) _
  have hB5 := HB4.out.set 1 (.slice IA m ic)
  have hb5 : Below w.heap.size w (w3.setCell ⟨w.heap.size, 1, none⟩ (.slice IA m ic)) := HB3.out.setCell (Nat.le_refl _) _
  have hrn : Calls Try.prog 4 #[.agg #[.int .i64 (N : Int), .slice IA m ic], .slice (some ⟨W1.heap.size, 0, none⟩) N N, .slice none 0 0] (w3.setCell ⟨w.heap.size, 1, none⟩ (.slice IA m ic)) fun e w' => e = .returned (.bool true) ∧ Below (w3.setCell ⟨w.heap.size, 1, none⟩ (.slice IA m ic)).heap.size (w3.setCell ⟨w.heap.size, 1, none⟩ (.slice IA m ic)) w' := by
    have h1 := HCC.out w Any _ hml HIN.out
    have h2 : Sl w Any 5 IA (pr.take m).length ic ((pr.take m).flatMap insZC) := by
      rw [insZ_take, List.length_take, Nat.min_eq_left hml]; exact h1
    have h3 := h2.move (Mv.of_below hb5 Any)
    have h4 : By (w3.setCell ⟨w.heap.size, 1, none⟩ (.slice IA m ic)) Any (some ⟨W1.heap.size, 0, none⟩) N N l2 := by
      have h6 := Sl.mono HBY.out (ok1 := fun b => b ≠ w.heap.size) (fun k _ h => by have : W1.heap.size ≤ k := h; omega)
      exact (Sl.move h6 (Mv.of_kp hk4 (fun k _ h => h))).mono (fun _ _ _ => trivial)
    have h5 := vmruns_ok (w3.setCell ⟨w.heap.size, 1, none⟩ (.slice IA m ic)) (N : Int) IA ic (pr.take m) h3 (fun i hi => HIM.out i (List.mem_of_mem_take hi)) l2 (some ⟨W1.heap.size, 0, none⟩) N (by rw [HL2.out]; exact h4) none 0 [] (Sl.nil _ _ _) (fun _ h => by cases h)
    rw [HL2.out, List.length_take, Nat.min_eq_left hml] at h5
    exact h5
  generalize hw5 : w3.setCell ⟨w.heap.size, 1, none⟩ (.slice IA m ic) = w5 at hk4 hB5 hb5 hrn ⊢
  have HRN := Lib.hid hrn; have HB5 := Lib.hid hb5
  clear hw5 hrn hk4 hb5 c0 c1 f1
  have c0 : w5.cell? ⟨w.heap.size, 0, none⟩ = some (.int .i64 (N : Int)) := hB5.cell 0 (by omega)
  have c1 : w5.cell? ⟨w.heap.size, 1, none⟩ = some (.slice IA m ic) := hB5.cell 1 (by omega)
  clear hB5 hmi
  go_wp2_with (go_at_call 4; (with_reducible refine HRN.out.mono ?_); rintro e W9 ⟨rfl, hb9⟩; have HB9 := Lib.hid hb9; clear hb9)
  go_ret
  exact ⟨rfl, HB5.out.trans (HB9.out.mono HB5.out.size)⟩
end
open Go.ChangeShapes Go.WideShapes Go.ChangeAt Go.RowKit Go.Deep
set_option maxRecDepth 100000

set_option maxRecDepth 100000 in
theorem vmFaults_lifted (os : Os) (started : os.Started) (H : Type) (enc : TypeId × Value → H) :
    ReturnsInHanded {} Try.checked os 9 .any (Rows.vmFaultsSpec.pre6 enc Try.prog Try.f9 Rows.vmFaultsRow.domain false) (Rows.vmFaultsSpec.post enc Try.prog Try.f9 false true false false) := by
  refine returnsInHanded_of_change (C := Try.checked) own08 started (by kernel_rfl) Try.func9
    (ChangeSpec.witness6 (enc := enc) (C := Try.checked) false ⟨#[], #[.agg #[.int .i64 0, .slice none 0 0], .slice none 0 0, .int .i64 0], []⟩ 8 (by kernel_rfl) (by kernel_rfl) (by kernel_rfl) (by kernel_rfl)) ?_
  intro W base args ds gs before hval0 hW hcnd _
  have hval : ∀ (j : Nat) t v, Try.f9.params[j]? = some t → args[j]? = some v → Value.okWide Try.prog W .any base t v := hval0
  have hW' := hW
  obtain ⟨p, q, hA0, hV, rfl, hfz, hnd⟩ := hW
  have hA : DataW.TrodAll enc Try.prog W 0 (fun _ => true) true Try.f9.params.toList args.toList ds p := hA0
  rw [Try.params9] at hA hval
  obtain ⟨v0, vs0, d0, ds0, p0, q0, hargs, rfl, rfl, h0, r0⟩ := trodAll_cons hA
  obtain ⟨v1, vs1, d1, ds1, p1, q1, rfl, rfl, rfl, h1, r1⟩ := trodAll_cons r0
  obtain ⟨v2, vs2, d2, ds2, p2, q2, rfl, rfl, rfl, h2, r2⟩ := trodAll_cons r1
  obtain ⟨rfl, rfl, rfl⟩ := trodAll_nil r2
  obtain rfl : args = #[v0, v1, v2] := by cases args; simp_all
  obtain ⟨rfl, rfl⟩ := trodVars_none hV
  have k0h := h0
  have lt0 : ∀ x ∈ p0, x.block < W.heap.size := by obtain ⟨m, hm⟩ := k0h; exact DataW.trod_lt m _ _ _ hm
  have k1h := h1
  have lt1 : ∀ x ∈ p1, x.block < W.heap.size := by obtain ⟨m, hm⟩ := k1h; exact DataW.trod_lt m _ _ _ hm
  have k2h := h2
  have lt2 : ∀ x ∈ p2, x.block < W.heap.size := by obtain ⟨m, hm⟩ := k2h; exact DataW.trod_lt m _ _ _ hm
  obtain ⟨a0, A0, xs0, c0, rfl, s0, m0, w0⟩ := prog_in (hval 0 _ v0 rfl rfl) h0
  obtain ⟨A1, l1, c1, rfl, s1⟩ := bytes_in (hval 1 _ v1 rfl rfl) h1
  obtain ⟨a2, rfl, rfl, rfl, w2⟩ := open_int Try.underlying3 (hval 2 _ v2 rfl rfl) h2
  clear hA0 hval0
  refine (vmfaults_ok W a0 A0 c0 xs0 s0 m0 l1 A1 c1 s1 a2).mono fun e W' ⟨he, bel⟩ => ?_
  subst he
  exact ⟨_, rfl, _, _, _, [], _, [], hW', trodAll_mk1 (shut_bool Try.underlying4 _), (trodAll_cons_mk (Below.trod laidOut08 (by kernel_rfl) (of_decide_eq_true (by kernel_rfl)) k0h bel lt0) (trodAll_cons_mk (Below.trod laidOut08 (by kernel_rfl) (of_decide_eq_true (by kernel_rfl)) k1h bel lt1) (trodAll_cons_mk (Below.trod laidOut08 (by kernel_rfl) (of_decide_eq_true (by kernel_rfl)) k2h bel lt2) trodAll_mk0))), rfl, bel.frame _, fun h => by cases h⟩

theorem vmFaults_over : Rows.vmFaultsRow.holds Try.pinned (OpenSpec.ofChange Rows.vmFaultsSpec) :=
  OpenClaim.holds_of_wide 9 Try.f9 rfl rfl rfl rfl rfl rfl rfl ⟨rfl, rfl, rfl, rfl, rfl⟩ rfl rfl rfl rfl rfl (by kernel_rfl) Try.func9 (by kernel_rfl)
    (of_decide_eq_true (by kernel_rfl)) (by unfold Func.isWrapper; first | (rw [if_pos (by decide +kernel)]; kernel_rfl) | (rw [if_neg (by decide +kernel)]; exact ⟨rfl, rfl⟩))
    (fun os started H enc _ => vmFaults_lifted os started H enc)

theorem vmFaults_holds : Rows.VmFaultsSaid := vmFaults_over
end Go.Proofs.Ytpnkbpjhbmacaaa
