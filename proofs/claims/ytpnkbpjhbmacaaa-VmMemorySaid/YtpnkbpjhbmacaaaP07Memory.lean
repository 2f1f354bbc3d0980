/- VmMemory, for every input: it returns true, and each argument reads afterwards as it read before. No condition. -/
import Derived.Test.YtpnkbpjhbmacaaaRow07
import Derived.Test.YtpnkbpjhbmacaaaVl4
set_option linter.unusedVariables false
set_option linter.unusedSimpArgs false
namespace Go.Proofs.Ytpnkbpjhbmacaaa
section
open Go.RowKit
theorem pair_at : ∀ (l : List (Nat × Nat)) (n : Nat) (y : Nat × Nat), l[n]? = some y → (l.flatMap pairC)[n * 2]? = some (.int .u32 (y.1 : Int)) ∧ (l.flatMap pairC)[n * 2 + 1]? = some (.int .u32 (y.2 : Int))
  | [], n, y, h => by simp at h
  | p :: l, 0, y, h => by
    simp only [List.getElem?_cons_zero, Option.some.injEq] at h
    subst h
    exact ⟨rfl, rfl⟩
  | p :: l, n + 1, y, h => by
    rw [List.getElem?_cons_succ] at h
    have e := pair_at l n y h
    rw [List.flatMap_cons, show (n + 1) * 2 = n * 2 + 2 by omega]
    exact e
set_option maxRecDepth 100000 in
set_option maxHeartbeats 4000000 in
theorem vmmem_ok (w : World) (cx : List UInt8) (CA : Option Addr) (cc : Nat) (hcx : By w Any CA cx.length cc cx) (l : List (Nat × Nat)) (LA : Option Addr) (lc : Nat) (hl : Sl w Any 2 LA l.length lc (l.flatMap pairC)) (hlw : ∀ y, y ∈ l → y.1 < 4294967296 ∧ y.2 < 4294967296) (off : Int) :
    Calls Try.prog 6 #[.slice CA cx.length cc, .slice LA l.length lc, .int .i64 off] w fun e w' => e = .returned (.bool true) ∧ Below w.heap.size w w' := by
  have HKN := Lib.hid known_ok
  have HCX := Lib.hid hcx; have HLW := Lib.hid hlw; clear hcx hlw
  have HL := Lib.hid hl; clear hl
  by_cases h1 : 256 < cx.length
  · have h1' : (256 : Int) < cx.length := by omega
    go_enter Try.func6, Try.ntmps6
    go_wp2_with (go_at_call 12; (with_reducible refine (HKN.out _).mono ?_); rintro e W10 ⟨rfl, hb10⟩; have HB10 := Lib.hid hb10; clear hb10)
    go_ret
    exact ⟨rfl, HB10.out⟩
  have h1' : ¬ (256 : Int) < cx.length := by omega
  by_cases h2 : 10 < l.length
  · have h2' : (10 : Int) < l.length := by omega
    go_enter Try.func6, Try.ntmps6
    go_wp2_with (go_at_call 12; (with_reducible refine (HKN.out _).mono ?_); rintro e W10 ⟨rfl, hb10⟩; have HB10 := Lib.hid hb10; clear hb10)
    go_ret
    exact ⟨rfl, HB10.out⟩
  have h2' : ¬ (10 : Int) < l.length := by omega
  by_cases h3 : off < -32768
  · go_enter Try.func6, Try.ntmps6
    go_wp2_with (go_at_call 12; (with_reducible refine (HKN.out _).mono ?_); rintro e W10 ⟨rfl, hb10⟩; have HB10 := Lib.hid hb10; clear hb10)
    go_ret
    exact ⟨rfl, HB10.out⟩
  by_cases h4 : 32767 < off
  · go_enter Try.func6, Try.ntmps6
    go_wp2_with (go_at_call 12; (with_reducible refine (HKN.out _).mono ?_); rintro e W10 ⟨rfl, hb10⟩; have HB10 := Lib.hid hb10; clear hb10)
    go_ret
    exact ⟨rfl, HB10.out⟩
  have hP := PB.lit2 (w := w) (W := w) (z := w.heap.size) rfl (Below.refl _ _) (cx.length : Int) [⟨1, 0, 0, 0, 0⟩] #[.int .i64 1, .int .i64 0, .int .i64 0, .int .i64 0, .int .u32 0] 1 rfl rfl (by simp) (by intro j hj; rw [List.mem_singleton.1 hj]; simp)
  go_enter Try.func6, Try.ntmps6
  go_upto_region 4 with fail
  generalize hW3 : (w.alloc (.cells #[.int .i64 1, .int .i64 0, .int .i64 0, .int .i64 0, .int .u32 0] 50)).alloc (.cells #[.int .i64 (cx.length : Int), .slice (some ⟨w.heap.size, 0, none⟩) 1 1] 24) = W3 at hP ⊢
  have HP := Lib.hid hP; clear hP hW3
  obtain ⟨G, hG⟩ : ∃ G, G = w.heap.size + 1 := ⟨_, rfl⟩
  rw [← hG] at HP ⊢
  have HG := Lib.hid hG; clear hG
  go_wp2
  go_loopw [8] (fun iv wr => ∃ k : Nat, k ≤ l.length ∧ iv = .int .i64 (k : Int) ∧ ∃ V xs, xs.length = 7 * k + 1 ∧ PB w G (cx.length : Int) V xs wr) (fun iv _ => l.length - (intOf iv).toNat)
  case atStart => exact ⟨0, Nat.zero_le _, rfl, _, _, rfl, HP.out⟩
  case round =>
    obtain ⟨k, hk, rfl, V, xs, hxl, hp⟩ := hrel
    obtain ⟨VA, vc, rfl⟩ := own_shape hp.row
    have HP1 := Lib.hid hp; clear hp
    have HXL := Lib.hid hxl
    have hxl2 : xs.length ≤ 300 := by omega
    clear hxl
    by_cases hlt : k < l.length
    · have hlt' : (k : Int) < l.length := by omega
      obtain ⟨pr, hpr⟩ : ∃ y, l[k]? = some y := ⟨_, List.getElem?_eq_getElem hlt⟩
      obtain ⟨x, y⟩ := pr
      have hw := HLW.out (x, y) (List.mem_of_getElem? hpr)
      obtain ⟨a, rfl, _, hal, hac⟩ := HL.out.at_ (j := k * 2) (by omega)
      obtain ⟨e1, e2⟩ := pair_at l k (x, y) hpr
      have HC1 := Lib.hid (hac _ _ e1)
      have HC2 := Lib.hid (hac _ _ e2)
      have HAC := Lib.hid hac
      have HYS := Lib.hid (show ∀ i, i ∈ ([⟨1, 1, 0, 0, x⟩, ⟨1, 2, 0, 0, y⟩, ⟨18, 1, 2, off, 0⟩, ⟨17, 3, 1, off, 0⟩, ⟨4, 0, 3, 0, 0⟩, ⟨16, 4, 2, off, 0⟩, ⟨4, 0, 4, 0, 0⟩] : List InsZ) → i.imm < 4294967296 from by intro i hi; simp only [List.mem_cons, List.not_mem_nil, or_false] at hi; rcases hi with rfl | rfl | rfl | rfl | rfl | rfl | rfl <;> first | exact hw.1 | exact hw.2 | simp)
      clear hac e1 e2 hw hpr
      go_upto_region 7 with fail
      refine wp_region_noPanic ?_
      refine plan (.rd 0 (.rd 1 (.rd 2 (.rd 3 (.rd 4 (.rd 5 (.rd 6 (.rd 7 (.rd 8 (.rd 9 (.rd 10 (.rd 11 (.rd 12 (.rd 13 (.rd 14 (.rd 15 (.rd 16 (.rd 17 (.rd 18 (.rd 19 (.rd 20 (.rd 21 (.eff 22 (.eff 23 (.eff 24 (.eff 25 .done)))))))))))))))))))))))))) [0, 1, 2, 3, 4, 5, 6, 7, 8, 9, 10, 11, 12, 13, 14, 15, 16, 17, 18, 19, 20, 21, 22, 23] (fun W => Below w.heap.size w W ∧ W.cell? ⟨G, 1, none⟩ = some (.slice VA xs.length vc)) (by kernel_rfl) (by kernel_rfl) (fun _ _ _ _ _ h => h) ⟨HP1.out.drewp.b, HP1.out.drewp.c1⟩ ?_
      repeat (refine pl_pure rfl (fun K hK => ?_); go_simp; refine hK _ ?_; clear hK K)
      refine pl_rd (.slice VA xs.length vc) rfl rfl (fun W hS => ?_) (fun K hK => ?_)
      · have f0 := hS.2
        simp [go_sem, f0]
      go_simp
      refine hK _ ?_
      clear hK K
      repeat (refine pl_pure rfl (fun K hK => ?_); go_simp; refine hK _ ?_; clear hK K)
      refine pl_rd (.int .u32 (x : Int)) rfl rfl (fun W hS => ?_) (fun K hK => ?_)
      · have f0 := (Kp.of_below hS.1 No).cell HC1.out (fun e => e)
        simp [go_sem, f0]
      go_simp
      refine hK _ ?_
      clear hK K
      repeat (refine pl_pure rfl (fun K hK => ?_); go_simp; refine hK _ ?_; clear hK K)
      refine pl_rd (.int .u32 (y : Int)) rfl rfl (fun W hS => ?_) (fun K hK => ?_)
      · have f0 := (Kp.of_below hS.1 No).cell HC2.out (fun e => e)
        rw [addr_next] at f0
        simp [go_sem, f0]
      go_simp
      refine hK _ ?_
      clear hK K
      repeat (refine pl_pure rfl (fun K hK => ?_); go_simp; refine hK _ ?_; clear hK K)
      refine pl_eff rfl rfl (fun K hK => ?_)
      go_simp
      generalize hob : Obj.cells _ 50 = ob
      have ho : ob = .cells (([⟨1, 1, 0, 0, x⟩, ⟨1, 2, 0, 0, y⟩, ⟨18, 1, 2, off, 0⟩, ⟨17, 3, 1, off, 0⟩, ⟨4, 0, 3, 0, 0⟩, ⟨16, 4, 2, off, 0⟩, ⟨4, 0, 4, 0, 0⟩] : List InsZ).flatMap insZC).toArray 50 := by rw [← hob]; rfl
      clear hob
      have HPY := Lib.hid (HP1.out.below ((Below.refl _ _).alloc (Nat.le_refl _) ob))
      have HPD := Lib.hid HPY.out.drewp
      have hsy : Sl (wr.alloc ob) Any 5 (some ⟨wr.heap.size, 0, none⟩) 7 7 (([⟨1, 1, 0, 0, x⟩, ⟨1, 2, 0, 0, y⟩, ⟨18, 1, 2, off, 0⟩, ⟨17, 3, 1, off, 0⟩, ⟨4, 0, 3, 0, 0⟩, ⟨16, 4, 2, off, 0⟩, ⟨4, 0, 4, 0, 0⟩] : List InsZ).flatMap insZC) := by rw [ho]; exact ins_lit wr [⟨1, 1, 0, 0, x⟩, ⟨1, 2, 0, 0, y⟩, ⟨18, 1, 2, off, 0⟩, ⟨17, 3, 1, off, 0⟩, ⟨4, 0, 3, 0, 0⟩, ⟨16, 4, 2, off, 0⟩, ⟨4, 0, 4, 0, 0⟩] _ 7 rfl rfl (by omega)
      have HSY := Lib.hid hsy.drew
      clear ho hsy
      refine hK _ _ (fun _ => ⟨HPD.out.b, HPD.out.c1⟩) ?_
      clear hK K
      refine pl_eff rfl rfl (fun K hK => ?_)
      refine wp_append_sl ((wr.alloc ob).drew) (.tmp 38) (.tmp 59) 22 rfl w.heap.size 50 _ 5 40 Try.underlying22 info_ins rfl (by omega) (by omega) (.slice VA xs.length vc) xs.length (xs.flatMap insZC) rfl HPD.out.row (some ⟨wr.heap.size, 0, none⟩) 7 7 (([⟨1, 1, 0, 0, x⟩, ⟨1, 2, 0, 0, y⟩, ⟨18, 1, 2, off, 0⟩, ⟨17, 3, 1, off, 0⟩, ⟨4, 0, 3, 0, 0⟩, ⟨16, 4, 2, off, 0⟩, ⟨4, 0, 4, 0, 0⟩] : List InsZ).flatMap insZC) rfl HSY.out (insZ_one _) (by omega) (by have := HPD.out.b.size; exact this) ?_
      intro v6 w6 hown6 hg6 hat6
      obtain ⟨VB, vb, rfl⟩ := own_shape hown6
      obtain ⟨gc, gf⟩ := HPD.out.grown hg6
      have hb6 := HPD.out.growb hg6
      have HP6 := Lib.hid (HPD.out.more [⟨1, 1, 0, 0, x⟩, ⟨1, 2, 0, 0, y⟩, ⟨18, 1, 2, off, 0⟩, ⟨17, 3, 1, off, 0⟩, ⟨4, 0, 3, 0, 0⟩, ⟨16, 4, 2, off, 0⟩, ⟨4, 0, 4, 0, 0⟩] rfl rfl HYS.out hown6 hg6 hat6)
      clear hown6 hg6 hat6
      refine hK _ _ (fun _ => ⟨hb6, gc⟩) ?_
      clear hK K
      refine pl_eff rfl rfl (fun K hK => ?_)
      go_simp
      refine hK _ _ (fun h => by cases h) ?_
      clear hK K
      refine pl_eff rfl rfl (fun K hK => ?_)
      go_simp
      refine hK _ _ (fun h => by cases h) ?_
      clear hK K
      refine pl_done ?_
      refine NoPanic.normal ?_
      generalize hw7 : w6.setCell ⟨G, 1, none⟩ (.slice VB (xs.length + 7) vb) = w7 at HP6 ⊢
      clear hw7
      go_wp2
      go_roundw
      case rel => exact ⟨k + 1, by omega, by go_num, _, _, by have := HXL.out; simp; omega, HP6.out⟩
      case measure => simp [intOf]; omega
    · obtain rfl : k = l.length := by omega
      have hlt' : ¬ (l.length : Int) < l.length := by omega
      have c1 := HP1.out.c1
      have HPY := Lib.hid (HP1.out.below ((Below.refl _ _).alloc (Nat.le_refl _) (.cells #[.int .i64 24, .int .i64 0, .int .i64 0, .int .i64 0, .int .u32 0] 50)))
      have HSY := Lib.hid (ins_lit wr ([⟨24, 0, 0, 0, 0⟩] : List InsZ) #[.int .i64 24, .int .i64 0, .int .i64 0, .int .i64 0, .int .u32 0] 1 rfl rfl (by omega))
      go_upto_region 9 with (refine wpList_append_sl _ rfl (.tmp 63) (.tmp 65) 22 rfl w.heap.size 50 _ 5 40 Try.underlying22 info_ins rfl (by omega) (by omega) (.slice VA xs.length vc) xs.length (xs.flatMap insZC) rfl HPY.out.row (some ⟨wr.heap.size, 0, none⟩) 1 1 (([⟨24, 0, 0, 0, 0⟩] : List InsZ).flatMap insZC) rfl HSY.out (insZ_one _) (by omega) (by have := HPY.out.b.size; exact this) ?_; intro v6 w6 hown6 hg6 hat6; obtain ⟨VB, vb, rfl⟩ := own_shape hown6; obtain ⟨gc, gf⟩ := HPY.out.grown hg6; have hb6 := HPY.out.growb hg6; have HP6 := Lib.hid (HPY.out.more [⟨24, 0, 0, 0, 0⟩] rfl rfl (by intro j hj; rw [List.mem_singleton.1 hj]; simp) hown6 hg6 hat6); clear hown6 hg6 hat6)
      generalize hw7 : w6.setCell ⟨G, 1, none⟩ (.slice VB (xs.length + 1) vb) = w7 at HP6 ⊢
      clear hw7 gc gf c1 hb6
      have c0 := HP6.out.c0
      have c1 := HP6.out.c1
      have HRN := Lib.hid (HP6.out.runsx (by simp) cx CA cc (Sl.move HCX.out (Mv.of_below HP6.out.b Any)))
      go_wp2_with (go_at_call 4; (with_reducible refine HRN.out.mono ?_); rintro e W9 ⟨rfl, hb9⟩; have HB9 := Lib.hid hb9; clear hb9)
      go_ret
      exact ⟨rfl, HB9.out⟩
end
open Go.ChangeShapes Go.WideShapes Go.ChangeAt Go.RowKit Go.Deep
set_option maxRecDepth 100000

set_option maxRecDepth 100000 in
theorem vmMemory_lifted (os : Os) (started : os.Started) (H : Type) (enc : TypeId × Value → H) :
    ReturnsInHanded {} Try.checked os 6 .any (Rows.vmMemorySpec.pre6 enc Try.prog Try.f6 Rows.vmMemoryRow.domain false) (Rows.vmMemorySpec.post enc Try.prog Try.f6 false true false false) := by
  refine returnsInHanded_of_change (C := Try.checked) own08 started (by kernel_rfl) Try.func6
    (ChangeSpec.witness6 (enc := enc) (C := Try.checked) false ⟨#[], #[.slice none 0 0, .slice none 0 0, .int .i64 0], []⟩ 8 (by kernel_rfl) (by kernel_rfl) (by kernel_rfl) (by kernel_rfl)) ?_
  intro W base args ds gs before hval0 hW hcnd _
  have hval : ∀ (j : Nat) t v, Try.f6.params[j]? = some t → args[j]? = some v → Value.okWide Try.prog W .any base t v := hval0
  have hW' := hW
  obtain ⟨p, q, hA0, hV, rfl, hfz, hnd⟩ := hW
  have hA : DataW.TrodAll enc Try.prog W 0 (fun _ => true) true Try.f6.params.toList args.toList ds p := hA0
  rw [Try.params6] at hA hval
  obtain ⟨v0, vs0, d0, ds0, p0, q0, hargs, rfl, rfl, h0, r0⟩ := trodAll_cons hA
  obtain ⟨v1, vs1, d1, ds1, p1, q1, rfl, rfl, rfl, h1, r1⟩ := trodAll_cons r0
  obtain ⟨v2, vs2, d2, ds2, p2, q2, rfl, rfl, rfl, h2, r2⟩ := trodAll_cons r1
  obtain ⟨rfl, rfl, rfl⟩ := trodAll_nil r2
  obtain rfl : args = #[v0, v1, v2] := by cases args; simp_all
  obtain ⟨rfl, rfl⟩ := trodVars_none hV
  have k0h := h0
  have lt0 : ∀ x ∈ p0, x.block < W.heap.size := by obtain ⟨m, hm⟩ := k0h; exact DataW.trod_lt m _ _ _ hm
  have k1h := h1
  have lt1 : ∀ x ∈ p1, x.block < W.heap.size := by obtain ⟨m, hm⟩ := k1h; exact DataW.trod_lt m _ _ _ hm
  have k2h := h2
  have lt2 : ∀ x ∈ p2, x.block < W.heap.size := by obtain ⟨m, hm⟩ := k2h; exact DataW.trod_lt m _ _ _ hm
  obtain ⟨A0, l0, c0, rfl, s0⟩ := bytes_in (hval 0 _ v0 rfl rfl) h0
  obtain ⟨A1, l1, c1, rfl, s1, m1⟩ := pairs_in (hval 1 _ v1 rfl rfl) h1
  obtain ⟨a2, rfl, rfl, rfl, w2⟩ := open_int Try.underlying3 (hval 2 _ v2 rfl rfl) h2
  clear hA0 hval0
  refine (vmmem_ok W l0 A0 c0 s0 l1 A1 c1 s1 m1 a2).mono fun e W' ⟨he, bel⟩ => ?_
  subst he
  exact ⟨_, rfl, _, _, _, [], _, [], hW', trodAll_mk1 (shut_bool Try.underlying4 _), (trodAll_cons_mk (Below.trod laidOut08 (by kernel_rfl) (of_decide_eq_true (by kernel_rfl)) k0h bel lt0) (trodAll_cons_mk (Below.trod laidOut08 (by kernel_rfl) (of_decide_eq_true (by kernel_rfl)) k1h bel lt1) (trodAll_cons_mk (Below.trod laidOut08 (by kernel_rfl) (of_decide_eq_true (by kernel_rfl)) k2h bel lt2) trodAll_mk0))), rfl, bel.frame _, fun h => by cases h⟩

theorem vmMemory_over : Rows.vmMemoryRow.holds Try.pinned (OpenSpec.ofChange Rows.vmMemorySpec) :=
  OpenClaim.holds_of_wide 6 Try.f6 rfl rfl rfl rfl rfl rfl rfl ⟨rfl, rfl, rfl, rfl, rfl⟩ rfl rfl rfl rfl rfl (by kernel_rfl) Try.func6 (by kernel_rfl)
    (of_decide_eq_true (by kernel_rfl)) (by unfold Func.isWrapper; first | (rw [if_pos (by decide +kernel)]; kernel_rfl) | (rw [if_neg (by decide +kernel)]; exact ⟨rfl, rfl⟩))
    (fun os started H enc _ => vmMemory_lifted os started H enc)

theorem vmMemory_holds : Rows.VmMemorySaid := vmMemory_over
end Go.Proofs.Ytpnkbpjhbmacaaa
