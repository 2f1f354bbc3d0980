/- VmJumps, for every input: it returns true, and each argument reads afterwards as it read before. No condition. -/
import Derived.Test.YtpnkbpjhbmacaaaRow07
import Derived.Test.YtpnkbpjhbmacaaaVl4
set_option linter.unusedVariables false
set_option linter.unusedSimpArgs false
namespace Go.Proofs.Ytpnkbpjhbmacaaa
section
open Go.RowKit
theorem trip_at : ∀ (l : List (Nat × Nat × Nat)) (n : Nat) (y : Nat × Nat × Nat), l[n]? = some y → (l.flatMap tripC)[n * 3]? = some (.int .u32 (y.1 : Int)) ∧ (l.flatMap tripC)[n * 3 + 1]? = some (.int .u32 (y.2.1 : Int)) ∧ (l.flatMap tripC)[n * 3 + 2]? = some (.int .u32 (y.2.2 : Int))
  | [], n, y, h => by simp at h
  | p :: l, 0, y, h => by
    simp only [List.getElem?_cons_zero, Option.some.injEq] at h
    subst h
    exact ⟨rfl, rfl, rfl⟩
  | p :: l, n + 1, y, h => by
    rw [List.getElem?_cons_succ] at h
    have e := trip_at l n y h
    rw [List.flatMap_cons, show (n + 1) * 3 = n * 3 + 3 by omega]
    exact e
theorem info_ins5 : (Try.prog.info? 50).map (·.size) = some 5 := by kernel_rfl
theorem PB.keep7 {w : World} {g : Nat} {ctx : Int} {V : Value} {xs : List InsZ} {W W1 : World} {M : Nat → Prop} (h : PB w g ctx V xs W) (hk : Kp M W W1) (hz : ∀ k, k < w.heap.size → ¬ M k) (hg : ¬ M g) (hV : ∀ k, V.ownBlock = some k → ¬ M k) : PB w g ctx V xs W1 :=
  ⟨((Kp.of_below h.b No).trans hk (fun k hk' hm => hz k hk' hm)).below, h.g1, by have := hk.size; have := h.gz; omega, h.blk.keep hk hg, own_move h.row (fun k hk' hlt => hk.block k hlt (hV k hk')), h.vg, h.im⟩
theorem ins_zero {w : World} {g : Nat} {ctx : Int} {V : Value} {xs : List InsZ} {W : World} (h : PB w g ctx V xs W) :
    Hid (PB w g ctx V xs (W.alloc (.cells #[.int .i64 0, .int .i64 0, .int .i64 0, .int .i64 0, .int .u32 0] 50))) ∧ Hid (Blk (W.alloc (.cells #[.int .i64 0, .int .i64 0, .int .i64 0, .int .i64 0, .int .u32 0] 50)) W.heap.size 50 5 (fun j => (#[.int .i64 0, .int .i64 0, .int .i64 0, .int .i64 0, .int .u32 0] : Array Value).getD j undef)) ∧ Hid (w.heap.size ≤ W.heap.size ∧ W.heap.size ≠ g ∧ V.ownBlock ≠ some W.heap.size) :=
  ⟨Lib.hid (h.below ((Below.refl _ _).alloc (Nat.le_refl _) _)), Lib.hid (Blk.lit W 50 #[.int .i64 0, .int .i64 0, .int .i64 0, .int .i64 0, .int .u32 0]), Lib.hid ⟨h.b.size, by have := h.gz; omega, fun e => by have := (h.row.lt _ e).2; omega⟩⟩
theorem ins_set {w : World} {g : Nat} {ctx : Int} {V : Value} {xs : List InsZ} {W : World} {D : Nat} {F : Nat → Value} (h : PB w g ctx V xs W) (hB : Blk W D 50 5 F) (hD : w.heap.size ≤ D) (hne : D ≠ g) (hv : V.ownBlock ≠ some D) (cs : Array Value) (hc : cs.size = 5) :
    ∃ W9, Hid (W9 = W.setCells D 0 cs.toList) ∧ Hid (PB w g ctx V xs W9) ∧ Hid (Blk W9 D 50 5 (fun j => cs.getD j undef)) := by
  have hk : Kp (fun b => b = D) W (W.setCells D 0 cs.toList) := Kp.setCells (M := fun b => b = D) (.inl rfl) _ _ _ (Kp.refl (fun b => b = D) W)
  refine ⟨_, Lib.hid rfl, Lib.hid (h.keep7 hk (fun k hk' e => by omega) (fun e => hne e.symm) (fun k hk' e => hv (by rw [hk', e]))), Lib.hid ?_⟩
  have := hB.fill (fun j => cs.getD j undef)
  have e : rowF 5 (fun j => cs.getD j undef) = cs.toList := by
    apply List.ext_getElem?
    intro j
    rcases Nat.lt_or_ge j 5 with hj | hj
    · rw [rowF_get 5 _ j hj, Array.getElem?_toList]
      simp [Array.getD_eq_getD_getElem?, Array.getElem?_eq_getElem (show j < cs.size by omega)]
    · rw [List.getElem?_eq_none (by rw [rowF_length]; exact hj), List.getElem?_eq_none (by rw [Array.length_toList, hc]; exact hj)]
  rwa [e] at this
theorem ins_one {w : World} {g : Nat} {ctx : Int} {V : Value} {xs : List InsZ} {W : World} {D : Nat} {F : Nat → Value} (h : PB w g ctx V xs W) (hB : Blk W D 50 5 F) (hD : w.heap.size ≤ D) (hne : D ≠ g) (hv : V.ownBlock ≠ some D) (n : Nat) (v : Value) :
    ∃ W9, Hid (W9 = W.setCell ⟨D, n, none⟩ v) ∧ Hid (PB w g ctx V xs W9) ∧ Hid (Blk W9 D 50 5 (fun j => if j = n then v else F j)) := by
  have hk : Kp (fun b => b = D) W (W.setCell ⟨D, n, none⟩ v) := (Kp.refl (fun b => b = D) W).setCell (p := ⟨D, n, none⟩) (.inl rfl) v
  exact ⟨_, Lib.hid rfl, Lib.hid (h.keep7 hk (fun k hk' e => by omega) (fun e => hne e.symm) (fun k hk' e => hv (by rw [hk', e]))), Lib.hid (hB.set n v)⟩
set_option maxRecDepth 100000 in
set_option maxHeartbeats 4000000 in
theorem vmjumps_ok (w : World) (l : List (Nat × Nat × Nat)) (LA : Option Addr) (lc : Nat) (hl : Sl w Any 3 LA l.length lc (l.flatMap tripC)) (hlw : ∀ y, y ∈ l → y.1 < 4294967296 ∧ y.2.1 < 4294967296 ∧ y.2.2 < 4294967296) (v : Nat) (hv : v < 4294967296) :
    Calls Try.prog 8 #[.slice LA l.length lc, .int .u32 (v : Int)] w fun e w' => e = .returned (.bool true) ∧ Below w.heap.size w w' := by
  have HKN := Lib.hid known_ok
  have HLW := Lib.hid hlw; clear hlw
  have HL := Lib.hid hl; clear hl
  by_cases h2 : 20 < l.length
  · have h2' : (20 : Int) < l.length := by omega
    go_enter Try.func8, Try.ntmps8
    go_wp2_with (go_at_call 12; (with_reducible refine (HKN.out _).mono ?_); rintro e W10 ⟨rfl, hb10⟩; have HB10 := Lib.hid hb10; clear hb10)
    go_ret
    exact ⟨rfl, HB10.out⟩
  have h2' : ¬ (20 : Int) < l.length := by omega
  have hP := PB.lit2 (w := w) (W := w) (z := w.heap.size) rfl (Below.refl _ _) 0 [⟨1, 0, 0, 0, v⟩, ⟨1, 1, 0, 0, 5⟩] #[.int .i64 1, .int .i64 0, .int .i64 0, .int .i64 0, .int .u32 (v : Int), .int .i64 1, .int .i64 1, .int .i64 0, .int .i64 0, .int .u32 5] 2 rfl rfl (by simp) (by intro j hj; simp only [List.mem_cons, List.not_mem_nil, or_false] at hj; rcases hj with rfl | rfl <;> first | exact hv | simp)
  go_enter Try.func8, Try.ntmps8
  go_upto_region 4 with fail
  generalize hW3 : (w.alloc (.cells #[.int .i64 1, .int .i64 0, .int .i64 0, .int .i64 0, .int .u32 (v : Int), .int .i64 1, .int .i64 1, .int .i64 0, .int .i64 0, .int .u32 5] 50)).alloc (.cells #[.int .i64 0, .slice (some ⟨w.heap.size, 0, none⟩) 2 2] 24) = W3 at hP ⊢
  have HP := Lib.hid hP; clear hP hW3
  obtain ⟨G, hG⟩ : ∃ G, G = w.heap.size + 1 := ⟨_, rfl⟩
  rw [← hG] at HP ⊢
  have HG := Lib.hid hG; clear hG
  go_wp2
  go_loopw [6] (fun iv wr => ∃ k : Nat, k ≤ l.length ∧ iv = .int .i64 (k : Int) ∧ ∃ V xs, xs.length = 2 * k + 2 ∧ PB w G 0 V xs wr) (fun iv _ => l.length - (intOf iv).toNat)
  case atStart => exact ⟨0, Nat.zero_le _, rfl, _, _, rfl, HP.out⟩
  case round =>
    obtain ⟨k, hk, rfl, V, xs, hxl, hp⟩ := hrel
    obtain ⟨VA, vc, rfl⟩ := own_shape hp.row
    have HP1 := Lib.hid hp; clear hp
    have HXL := Lib.hid hxl
    have hxl2 : xs.length ≤ 300 := by omega
    clear hxl
    by_cases hlt : k < l.length
    · have hlt' : (k : Int) < l.length := by omega
      obtain ⟨pr, hpr⟩ : ∃ y, l[k]? = some y := ⟨_, List.getElem?_eq_getElem hlt⟩
      obtain ⟨x, y, z⟩ := pr
      have hw := HLW.out (x, y, z) (List.mem_of_getElem? hpr)
      obtain ⟨a, rfl, _, hal, hac⟩ := HL.out.at_ (j := k * 3) (by omega)
      obtain ⟨e1, e2, e3⟩ := trip_at l k (x, y, z) hpr
      have HC1 := Lib.hid (hac _ _ e1)
      have HC2 := Lib.hid (hac _ _ e2)
      have HC3 := Lib.hid (hac _ _ e3)
      obtain ⟨wc, hwc⟩ : ∃ wc : World, wc = wr := ⟨_, rfl⟩
      rw [← hwc] at HP1 ⊢
      clear hwc
      obtain ⟨o, ho⟩ : ∃ o, o = z % 4 := ⟨_, rfl⟩
      obtain ⟨p, hp⟩ : ∃ p, p = y % 2 := ⟨_, rfl⟩
      have f1 : (z : Int).tmod 4 = (o : Int) := by rw [Int.tmod_eq_emod_of_nonneg (by omega)]; omega
      have f2 : (y : Int).tmod 2 = (p : Int) := by rw [Int.tmod_eq_emod_of_nonneg (by omega)]; omega
      have b1 : o < 4 := by omega
      have b2 : p < 2 := by omega
      have b3 : y < 4294967296 := hw.2.1
      have f3 : IntKind.i64.wrap (o : Int) = (o : Int) := by rw [IntWalk.i64_in _ (by omega)]
      have f4 : IntKind.i64.wrap (p : Int) = (p : Int) := by rw [IntWalk.i64_in _ (by omega)]
      have hc : x % 4 = 0 ∨ x % 4 = 1 ∨ x % 4 = 2 ∨ x % 4 = 3 := by omega
      clear hac e1 e2 e3 hw hpr ho hp
      rcases hc with hc | hc | hc | hc
      · have e1 : (x : Int).tmod 4 = 0 := by rw [Int.tmod_eq_emod_of_nonneg (by omega)]; omega
        go_upto_region 7 with fail
        refine wp_region_noPanic ?_
        refine plan (.rd 0 (.rd 1 (.rd 2 (.rd 3 (.rd 4 (.rd 5 (.rd 6 (.rd 7 (.rd 8 (.rd 9 (.rd 10 (.rd 11 (.rd 12 (.rd 13 (.rd 14 (.rd 15 (.eff 16 (.eff 17 .done)))))))))))))))))) [0, 1, 2, 3, 4, 5, 6, 7, 8, 9, 10, 11, 12, 13, 14, 15, 16] (fun W => Below w.heap.size w W ∧ W.cell? ⟨G, 1, none⟩ = some (.slice VA xs.length vc)) (by kernel_rfl) (by kernel_rfl) (fun _ _ _ _ _ h => h) ⟨HP1.out.drewp.b, HP1.out.drewp.c1⟩ ?_
        repeat (refine pl_pure rfl (fun K hK => ?_); go_simp; refine hK _ ?_; clear hK K)
        refine pl_rd (.int .u32 (x : Int)) rfl rfl (fun W hS => ?_) (fun K hK => ?_)
        · have f0 := (Kp.of_below hS.1 No).cell HC1.out (fun e => e)
          simp [go_sem, f0]
        go_simp
        refine hK _ ?_
        clear hK K
        repeat (refine pl_pure rfl (fun K hK => ?_); go_simp; refine hK _ ?_; clear hK K)
        refine pl_rd (.int .u32 (z : Int)) rfl rfl (fun W hS => ?_) (fun K hK => ?_)
        · have f0 := (Kp.of_below hS.1 No).cell HC3.out (fun e => e)
          rw [addr_next] at f0
          simp [go_sem, f0]
        go_simp
        refine hK _ ?_
        clear hK K
        repeat (refine pl_pure rfl (fun K hK => ?_); go_simp; refine hK _ ?_; clear hK K)
        refine pl_eff rfl rfl (fun K hK => ?_)
        refine wp_value (w' := wc.drew.alloc (.cells #[.int .i64 0, .int .i64 0, .int .i64 0, .int .i64 0, .int .u32 0] 50)) (.pointer (some ⟨wc.drew.heap.size, 0, none⟩)) (by kernel_rfl) ?_
        obtain ⟨HPZ, HBZ, HDZ⟩ := ins_zero HP1.out.drewp
        refine hK _ _ (fun _ => ⟨HPZ.out.b, HPZ.out.c1⟩) ?_
        clear hK K
        generalize wc.drew.alloc (.cells #[.int .i64 0, .int .i64 0, .int .i64 0, .int .i64 0, .int .u32 0] 50) = W8 at HPZ HBZ ⊢
        generalize wc.drew.heap.size = D at HPZ HBZ HDZ ⊢
        obtain ⟨W9, HW9, HP9, HB9⟩ := ins_set HPZ.out HBZ.out HDZ.out.1 HDZ.out.2.1 HDZ.out.2.2 #[.int .i64 19, .int .i64 0, .int .i64 0, .int .i64 (o : Int), .int .u32 0] rfl
        refine pl_eff rfl rfl (fun K hK => ?_)
        refine wp_store_mid 50 (.tmp 7) (.tmp 38) rfl D 0 #[.int .i64 19, .int .i64 0, .int .i64 0, .int .i64 (o : Int), .int .u32 0] rfl rfl (there_blk HBZ.out) info_ins5 (by simp [Value.oneCell']) ?_
        rw [← HW9.out]
        refine hK _ _ (fun h => by cases h) ?_
        clear hK K
        refine pl_done ?_
        refine NoPanic.normal ?_
        have q0 := HB9.out.cell 0 (by omega)
        simp at q0
        go_upto_region 14 with fail
        clear q0
        have q0 := HB9.out.cell 0 (by omega)
        have q1 := HB9.out.cell 1 (by omega)
        have q2 := HB9.out.cell 2 (by omega)
        have q3 := HB9.out.cell 3 (by omega)
        have q4 := HB9.out.cell 4 (by omega)
        simp at q0 q1 q2 q3 q4
        have c1 := HP9.out.c1
        have HPY := Lib.hid (HP9.out.below ((Below.refl _ _).alloc (Nat.le_refl _) (.cells #[.int .i64 19, .int .i64 0, .int .i64 0, .int .i64 (o : Int), .int .u32 0, .int .i64 3, .int .i64 0, .int .i64 0, .int .i64 0, .int .u32 1] 50)))
        have HSY := Lib.hid (ins_lit W9 ([⟨19, 0, 0, o, 0⟩, ⟨3, 0, 0, 0, 1⟩] : List InsZ) #[.int .i64 19, .int .i64 0, .int .i64 0, .int .i64 (o : Int), .int .u32 0, .int .i64 3, .int .i64 0, .int .i64 0, .int .i64 0, .int .u32 1] 2 rfl rfl (by omega))
        have hys : ∀ i, i ∈ ([⟨19, 0, 0, o, 0⟩, ⟨3, 0, 0, 0, 1⟩] : List InsZ) → i.imm < 4294967296 := by intro i hi; simp only [List.mem_cons, List.not_mem_nil, or_false] at hi; rcases hi with rfl | rfl <;> first | exact b3 | simp
        go_upto_region 6 with (refine wpList_append_sl _ rfl (.tmp 61) (.tmp 64) 22 rfl w.heap.size 50 _ 5 40 Try.underlying22 info_ins rfl (by omega) (by omega) (.slice VA xs.length vc) xs.length (xs.flatMap insZC) rfl HPY.out.row (some ⟨W9.heap.size, 0, none⟩) 2 2 (([⟨19, 0, 0, o, 0⟩, ⟨3, 0, 0, 0, 1⟩] : List InsZ).flatMap insZC) rfl HSY.out (insZ_one _) (by omega) (by have := HPY.out.b.size; exact this) ?_; intro v6 w6 hown6 hg6 hat6; obtain ⟨VB, vb, rfl⟩ := own_shape hown6; obtain ⟨gc, gf⟩ := HPY.out.grown hg6; have hb6 := HPY.out.growb hg6; have HP6 := Lib.hid (HPY.out.more [⟨19, 0, 0, o, 0⟩, ⟨3, 0, 0, 0, 1⟩] rfl rfl hys hown6 hg6 hat6); clear hown6 hg6 hat6)
        generalize hw7 : w6.setCell ⟨G, 1, none⟩ (.slice VB (xs.length + 2) vb) = w7 at HP6 ⊢
        clear hw7 q0 q1 q2 q3 q4 c1
        go_wp2
        go_roundw
        case rel => exact ⟨k + 1, by omega, by go_num, _, _, by have := HXL.out; simp; omega, HP6.out⟩
        case measure => simp [intOf]; omega
      · have e1 : (x : Int).tmod 4 = 1 := by rw [Int.tmod_eq_emod_of_nonneg (by omega)]; omega
        go_upto_region 7 with fail
        refine wp_region_noPanic ?_
        refine plan (.rd 0 (.rd 1 (.rd 2 (.rd 3 (.rd 4 (.rd 5 (.rd 6 (.rd 7 (.rd 8 (.rd 9 (.rd 10 (.rd 11 (.rd 12 (.rd 13 (.rd 14 (.rd 15 (.eff 16 (.eff 17 .done)))))))))))))))))) [0, 1, 2, 3, 4, 5, 6, 7, 8, 9, 10, 11, 12, 13, 14, 15, 16] (fun W => Below w.heap.size w W ∧ W.cell? ⟨G, 1, none⟩ = some (.slice VA xs.length vc)) (by kernel_rfl) (by kernel_rfl) (fun _ _ _ _ _ h => h) ⟨HP1.out.drewp.b, HP1.out.drewp.c1⟩ ?_
        repeat (refine pl_pure rfl (fun K hK => ?_); go_simp; refine hK _ ?_; clear hK K)
        refine pl_rd (.int .u32 (x : Int)) rfl rfl (fun W hS => ?_) (fun K hK => ?_)
        · have f0 := (Kp.of_below hS.1 No).cell HC1.out (fun e => e)
          simp [go_sem, f0]
        go_simp
        refine hK _ ?_
        clear hK K
        repeat (refine pl_pure rfl (fun K hK => ?_); go_simp; refine hK _ ?_; clear hK K)
        refine pl_rd (.int .u32 (z : Int)) rfl rfl (fun W hS => ?_) (fun K hK => ?_)
        · have f0 := (Kp.of_below hS.1 No).cell HC3.out (fun e => e)
          rw [addr_next] at f0
          simp [go_sem, f0]
        go_simp
        refine hK _ ?_
        clear hK K
        repeat (refine pl_pure rfl (fun K hK => ?_); go_simp; refine hK _ ?_; clear hK K)
        refine pl_eff rfl rfl (fun K hK => ?_)
        refine wp_value (w' := wc.drew.alloc (.cells #[.int .i64 0, .int .i64 0, .int .i64 0, .int .i64 0, .int .u32 0] 50)) (.pointer (some ⟨wc.drew.heap.size, 0, none⟩)) (by kernel_rfl) ?_
        obtain ⟨HPZ, HBZ, HDZ⟩ := ins_zero HP1.out.drewp
        refine hK _ _ (fun _ => ⟨HPZ.out.b, HPZ.out.c1⟩) ?_
        clear hK K
        generalize wc.drew.alloc (.cells #[.int .i64 0, .int .i64 0, .int .i64 0, .int .i64 0, .int .u32 0] 50) = W8 at HPZ HBZ ⊢
        generalize wc.drew.heap.size = D at HPZ HBZ HDZ ⊢
        obtain ⟨W9, HW9, HP9, HB9⟩ := ins_set HPZ.out HBZ.out HDZ.out.1 HDZ.out.2.1 HDZ.out.2.2 #[.int .i64 20, .int .i64 0, .int .i64 0, .int .i64 (o : Int), .int .u32 0] rfl
        refine pl_eff rfl rfl (fun K hK => ?_)
        refine wp_store_mid 50 (.tmp 7) (.tmp 38) rfl D 0 #[.int .i64 20, .int .i64 0, .int .i64 0, .int .i64 (o : Int), .int .u32 0] rfl rfl (there_blk HBZ.out) info_ins5 (by simp [Value.oneCell']) ?_
        rw [← HW9.out]
        refine hK _ _ (fun h => by cases h) ?_
        clear hK K
        refine pl_done ?_
        refine NoPanic.normal ?_
        have q0 := HB9.out.cell 0 (by omega)
        simp at q0
        have k2 := (Kp.of_below HP9.out.b No).cell HC2.out (fun e => e)
        rw [addr_next] at k2
        have z4 := HB9.out.frozen 4
        have y4 := HB9.out.cell 4 (by omega)
        go_upto_region 14 with fail
        obtain ⟨W10, HW10, HP10, HB10⟩ := ins_one HP9.out HB9.out HDZ.out.1 HDZ.out.2.1 HDZ.out.2.2 4 (.int .u32 (y : Int))
        rw [← HW10.out]
        clear q0 k2 z4 y4
        have q0 := HB10.out.cell 0 (by omega)
        have q1 := HB10.out.cell 1 (by omega)
        have q2 := HB10.out.cell 2 (by omega)
        have q3 := HB10.out.cell 3 (by omega)
        have q4 := HB10.out.cell 4 (by omega)
        simp at q0 q1 q2 q3 q4
        have c1 := HP10.out.c1
        have HPY := Lib.hid (HP10.out.below ((Below.refl _ _).alloc (Nat.le_refl _) (.cells #[.int .i64 20, .int .i64 0, .int .i64 0, .int .i64 (o : Int), .int .u32 (y : Int), .int .i64 3, .int .i64 0, .int .i64 0, .int .i64 0, .int .u32 1] 50)))
        have HSY := Lib.hid (ins_lit W10 ([⟨20, 0, 0, o, y⟩, ⟨3, 0, 0, 0, 1⟩] : List InsZ) #[.int .i64 20, .int .i64 0, .int .i64 0, .int .i64 (o : Int), .int .u32 (y : Int), .int .i64 3, .int .i64 0, .int .i64 0, .int .i64 0, .int .u32 1] 2 rfl rfl (by omega))
        have hys : ∀ i, i ∈ ([⟨20, 0, 0, o, y⟩, ⟨3, 0, 0, 0, 1⟩] : List InsZ) → i.imm < 4294967296 := by intro i hi; simp only [List.mem_cons, List.not_mem_nil, or_false] at hi; rcases hi with rfl | rfl <;> first | exact b3 | simp
        go_upto_region 6 with (refine wpList_append_sl _ rfl (.tmp 61) (.tmp 64) 22 rfl w.heap.size 50 _ 5 40 Try.underlying22 info_ins rfl (by omega) (by omega) (.slice VA xs.length vc) xs.length (xs.flatMap insZC) rfl HPY.out.row (some ⟨W10.heap.size, 0, none⟩) 2 2 (([⟨20, 0, 0, o, y⟩, ⟨3, 0, 0, 0, 1⟩] : List InsZ).flatMap insZC) rfl HSY.out (insZ_one _) (by omega) (by have := HPY.out.b.size; exact this) ?_; intro v6 w6 hown6 hg6 hat6; obtain ⟨VB, vb, rfl⟩ := own_shape hown6; obtain ⟨gc, gf⟩ := HPY.out.grown hg6; have hb6 := HPY.out.growb hg6; have HP6 := Lib.hid (HPY.out.more [⟨20, 0, 0, o, y⟩, ⟨3, 0, 0, 0, 1⟩] rfl rfl hys hown6 hg6 hat6); clear hown6 hg6 hat6)
        generalize hw7 : w6.setCell ⟨G, 1, none⟩ (.slice VB (xs.length + 2) vb) = w7 at HP6 ⊢
        clear hw7 q0 q1 q2 q3 q4 c1
        go_wp2
        go_roundw
        case rel => exact ⟨k + 1, by omega, by go_num, _, _, by have := HXL.out; simp; omega, HP6.out⟩
        case measure => simp [intOf]; omega
      · have e1 : (x : Int).tmod 4 = 2 := by rw [Int.tmod_eq_emod_of_nonneg (by omega)]; omega
        go_upto_region 7 with fail
        refine wp_region_noPanic ?_
        refine plan (.rd 0 (.rd 1 (.rd 2 (.rd 3 (.rd 4 (.rd 5 (.rd 6 (.rd 7 (.rd 8 (.rd 9 (.rd 10 (.rd 11 (.rd 12 (.rd 13 (.rd 14 (.rd 15 (.eff 16 (.eff 17 .done)))))))))))))))))) [0, 1, 2, 3, 4, 5, 6, 7, 8, 9, 10, 11, 12, 13, 14, 15, 16] (fun W => Below w.heap.size w W ∧ W.cell? ⟨G, 1, none⟩ = some (.slice VA xs.length vc)) (by kernel_rfl) (by kernel_rfl) (fun _ _ _ _ _ h => h) ⟨HP1.out.drewp.b, HP1.out.drewp.c1⟩ ?_
        repeat (refine pl_pure rfl (fun K hK => ?_); go_simp; refine hK _ ?_; clear hK K)
        refine pl_rd (.int .u32 (x : Int)) rfl rfl (fun W hS => ?_) (fun K hK => ?_)
        · have f0 := (Kp.of_below hS.1 No).cell HC1.out (fun e => e)
          simp [go_sem, f0]
        go_simp
        refine hK _ ?_
        clear hK K
        repeat (refine pl_pure rfl (fun K hK => ?_); go_simp; refine hK _ ?_; clear hK K)
        refine pl_rd (.int .u32 (z : Int)) rfl rfl (fun W hS => ?_) (fun K hK => ?_)
        · have f0 := (Kp.of_below hS.1 No).cell HC3.out (fun e => e)
          rw [addr_next] at f0
          simp [go_sem, f0]
        go_simp
        refine hK _ ?_
        clear hK K
        repeat (refine pl_pure rfl (fun K hK => ?_); go_simp; refine hK _ ?_; clear hK K)
        refine pl_eff rfl rfl (fun K hK => ?_)
        refine wp_value (w' := wc.drew.alloc (.cells #[.int .i64 0, .int .i64 0, .int .i64 0, .int .i64 0, .int .u32 0] 50)) (.pointer (some ⟨wc.drew.heap.size, 0, none⟩)) (by kernel_rfl) ?_
        obtain ⟨HPZ, HBZ, HDZ⟩ := ins_zero HP1.out.drewp
        refine hK _ _ (fun _ => ⟨HPZ.out.b, HPZ.out.c1⟩) ?_
        clear hK K
        generalize wc.drew.alloc (.cells #[.int .i64 0, .int .i64 0, .int .i64 0, .int .i64 0, .int .u32 0] 50) = W8 at HPZ HBZ ⊢
        generalize wc.drew.heap.size = D at HPZ HBZ HDZ ⊢
        obtain ⟨W9, HW9, HP9, HB9⟩ := ins_set HPZ.out HBZ.out HDZ.out.1 HDZ.out.2.1 HDZ.out.2.2 #[.int .i64 21, .int .i64 0, .int .i64 0, .int .i64 (o : Int), .int .u32 0] rfl
        refine pl_eff rfl rfl (fun K hK => ?_)
        refine wp_store_mid 50 (.tmp 7) (.tmp 38) rfl D 0 #[.int .i64 21, .int .i64 0, .int .i64 0, .int .i64 (o : Int), .int .u32 0] rfl rfl (there_blk HBZ.out) info_ins5 (by simp [Value.oneCell']) ?_
        rw [← HW9.out]
        refine hK _ _ (fun h => by cases h) ?_
        clear hK K
        refine pl_done ?_
        refine NoPanic.normal ?_
        have q0 := HB9.out.cell 0 (by omega)
        simp at q0
        have k2 := (Kp.of_below HP9.out.b No).cell HC2.out (fun e => e)
        rw [addr_next] at k2
        have z4 := HB9.out.frozen 4
        have y4 := HB9.out.cell 4 (by omega)
        go_upto_region 14 with fail
        obtain ⟨W10, HW10, HP10, HB10⟩ := ins_one HP9.out HB9.out HDZ.out.1 HDZ.out.2.1 HDZ.out.2.2 4 (.int .u32 (y : Int))
        rw [← HW10.out]
        clear q0 k2 z4 y4
        have q0 := HB10.out.cell 0 (by omega)
        have q1 := HB10.out.cell 1 (by omega)
        have q2 := HB10.out.cell 2 (by omega)
        have q3 := HB10.out.cell 3 (by omega)
        have q4 := HB10.out.cell 4 (by omega)
        simp at q0 q1 q2 q3 q4
        have c1 := HP10.out.c1
        have HPY := Lib.hid (HP10.out.below ((Below.refl _ _).alloc (Nat.le_refl _) (.cells #[.int .i64 21, .int .i64 0, .int .i64 0, .int .i64 (o : Int), .int .u32 (y : Int), .int .i64 3, .int .i64 0, .int .i64 0, .int .i64 0, .int .u32 1] 50)))
        have HSY := Lib.hid (ins_lit W10 ([⟨21, 0, 0, o, y⟩, ⟨3, 0, 0, 0, 1⟩] : List InsZ) #[.int .i64 21, .int .i64 0, .int .i64 0, .int .i64 (o : Int), .int .u32 (y : Int), .int .i64 3, .int .i64 0, .int .i64 0, .int .i64 0, .int .u32 1] 2 rfl rfl (by omega))
        have hys : ∀ i, i ∈ ([⟨21, 0, 0, o, y⟩, ⟨3, 0, 0, 0, 1⟩] : List InsZ) → i.imm < 4294967296 := by intro i hi; simp only [List.mem_cons, List.not_mem_nil, or_false] at hi; rcases hi with rfl | rfl <;> first | exact b3 | simp
        go_upto_region 6 with (refine wpList_append_sl _ rfl (.tmp 61) (.tmp 64) 22 rfl w.heap.size 50 _ 5 40 Try.underlying22 info_ins rfl (by omega) (by omega) (.slice VA xs.length vc) xs.length (xs.flatMap insZC) rfl HPY.out.row (some ⟨W10.heap.size, 0, none⟩) 2 2 (([⟨21, 0, 0, o, y⟩, ⟨3, 0, 0, 0, 1⟩] : List InsZ).flatMap insZC) rfl HSY.out (insZ_one _) (by omega) (by have := HPY.out.b.size; exact this) ?_; intro v6 w6 hown6 hg6 hat6; obtain ⟨VB, vb, rfl⟩ := own_shape hown6; obtain ⟨gc, gf⟩ := HPY.out.grown hg6; have hb6 := HPY.out.growb hg6; have HP6 := Lib.hid (HPY.out.more [⟨21, 0, 0, o, y⟩, ⟨3, 0, 0, 0, 1⟩] rfl rfl hys hown6 hg6 hat6); clear hown6 hg6 hat6)
        generalize hw7 : w6.setCell ⟨G, 1, none⟩ (.slice VB (xs.length + 2) vb) = w7 at HP6 ⊢
        clear hw7 q0 q1 q2 q3 q4 c1
        go_wp2
        go_roundw
        case rel => exact ⟨k + 1, by omega, by go_num, _, _, by have := HXL.out; simp; omega, HP6.out⟩
        case measure => simp [intOf]; omega
      · have e1 : (x : Int).tmod 4 = 3 := by rw [Int.tmod_eq_emod_of_nonneg (by omega)]; omega
        go_upto_region 7 with fail
        refine wp_region_noPanic ?_
        refine plan (.rd 0 (.rd 1 (.rd 2 (.rd 3 (.rd 4 (.rd 5 (.rd 6 (.rd 7 (.rd 8 (.rd 9 (.rd 10 (.rd 11 (.rd 12 (.rd 13 (.rd 14 (.rd 15 (.eff 16 (.eff 17 .done)))))))))))))))))) [0, 1, 2, 3, 4, 5, 6, 7, 8, 9, 10, 11, 12, 13, 14, 15, 16] (fun W => Below w.heap.size w W ∧ W.cell? ⟨G, 1, none⟩ = some (.slice VA xs.length vc)) (by kernel_rfl) (by kernel_rfl) (fun _ _ _ _ _ h => h) ⟨HP1.out.drewp.b, HP1.out.drewp.c1⟩ ?_
        repeat (refine pl_pure rfl (fun K hK => ?_); go_simp; refine hK _ ?_; clear hK K)
        refine pl_rd (.int .u32 (x : Int)) rfl rfl (fun W hS => ?_) (fun K hK => ?_)
        · have f0 := (Kp.of_below hS.1 No).cell HC1.out (fun e => e)
          simp [go_sem, f0]
        go_simp
        refine hK _ ?_
        clear hK K
        repeat (refine pl_pure rfl (fun K hK => ?_); go_simp; refine hK _ ?_; clear hK K)
        refine pl_rd (.int .u32 (z : Int)) rfl rfl (fun W hS => ?_) (fun K hK => ?_)
        · have f0 := (Kp.of_below hS.1 No).cell HC3.out (fun e => e)
          rw [addr_next] at f0
          simp [go_sem, f0]
        go_simp
        refine hK _ ?_
        clear hK K
        repeat (refine pl_pure rfl (fun K hK => ?_); go_simp; refine hK _ ?_; clear hK K)
        refine pl_eff rfl rfl (fun K hK => ?_)
        refine wp_value (w' := wc.drew.alloc (.cells #[.int .i64 0, .int .i64 0, .int .i64 0, .int .i64 0, .int .u32 0] 50)) (.pointer (some ⟨wc.drew.heap.size, 0, none⟩)) (by kernel_rfl) ?_
        obtain ⟨HPZ, HBZ, HDZ⟩ := ins_zero HP1.out.drewp
        refine hK _ _ (fun _ => ⟨HPZ.out.b, HPZ.out.c1⟩) ?_
        clear hK K
        generalize wc.drew.alloc (.cells #[.int .i64 0, .int .i64 0, .int .i64 0, .int .i64 0, .int .u32 0] 50) = W8 at HPZ HBZ ⊢
        generalize wc.drew.heap.size = D at HPZ HBZ HDZ ⊢
        obtain ⟨W9, HW9, HP9, HB9⟩ := ins_set HPZ.out HBZ.out HDZ.out.1 HDZ.out.2.1 HDZ.out.2.2 #[.int .i64 22, .int .i64 0, .int .i64 0, .int .i64 (o : Int), .int .u32 0] rfl
        refine pl_eff rfl rfl (fun K hK => ?_)
        refine wp_store_mid 50 (.tmp 7) (.tmp 38) rfl D 0 #[.int .i64 22, .int .i64 0, .int .i64 0, .int .i64 (o : Int), .int .u32 0] rfl rfl (there_blk HBZ.out) info_ins5 (by simp [Value.oneCell']) ?_
        rw [← HW9.out]
        refine hK _ _ (fun h => by cases h) ?_
        clear hK K
        refine pl_done ?_
        refine NoPanic.normal ?_
        have q0 := HB9.out.cell 0 (by omega)
        simp at q0
        have k2 := (Kp.of_below HP9.out.b No).cell HC2.out (fun e => e)
        rw [addr_next] at k2
        have z2 := HB9.out.frozen 2
        have y2 := HB9.out.cell 2 (by omega)
        go_upto_region 14 with fail
        obtain ⟨W10, HW10, HP10, HB10⟩ := ins_one HP9.out HB9.out HDZ.out.1 HDZ.out.2.1 HDZ.out.2.2 2 (.int .i64 (p : Int))
        rw [← HW10.out]
        clear q0 k2 z2 y2
        have q0 := HB10.out.cell 0 (by omega)
        have q1 := HB10.out.cell 1 (by omega)
        have q2 := HB10.out.cell 2 (by omega)
        have q3 := HB10.out.cell 3 (by omega)
        have q4 := HB10.out.cell 4 (by omega)
        simp at q0 q1 q2 q3 q4
        have c1 := HP10.out.c1
        have HPY := Lib.hid (HP10.out.below ((Below.refl _ _).alloc (Nat.le_refl _) (.cells #[.int .i64 22, .int .i64 0, .int .i64 (p : Int), .int .i64 (o : Int), .int .u32 0, .int .i64 3, .int .i64 0, .int .i64 0, .int .i64 0, .int .u32 1] 50)))
        have HSY := Lib.hid (ins_lit W10 ([⟨22, 0, p, o, 0⟩, ⟨3, 0, 0, 0, 1⟩] : List InsZ) #[.int .i64 22, .int .i64 0, .int .i64 (p : Int), .int .i64 (o : Int), .int .u32 0, .int .i64 3, .int .i64 0, .int .i64 0, .int .i64 0, .int .u32 1] 2 rfl rfl (by omega))
        have hys : ∀ i, i ∈ ([⟨22, 0, p, o, 0⟩, ⟨3, 0, 0, 0, 1⟩] : List InsZ) → i.imm < 4294967296 := by intro i hi; simp only [List.mem_cons, List.not_mem_nil, or_false] at hi; rcases hi with rfl | rfl <;> first | exact b3 | simp
        go_upto_region 6 with (refine wpList_append_sl _ rfl (.tmp 61) (.tmp 64) 22 rfl w.heap.size 50 _ 5 40 Try.underlying22 info_ins rfl (by omega) (by omega) (.slice VA xs.length vc) xs.length (xs.flatMap insZC) rfl HPY.out.row (some ⟨W10.heap.size, 0, none⟩) 2 2 (([⟨22, 0, p, o, 0⟩, ⟨3, 0, 0, 0, 1⟩] : List InsZ).flatMap insZC) rfl HSY.out (insZ_one _) (by omega) (by have := HPY.out.b.size; exact this) ?_; intro v6 w6 hown6 hg6 hat6; obtain ⟨VB, vb, rfl⟩ := own_shape hown6; obtain ⟨gc, gf⟩ := HPY.out.grown hg6; have hb6 := HPY.out.growb hg6; have HP6 := Lib.hid (HPY.out.more [⟨22, 0, p, o, 0⟩, ⟨3, 0, 0, 0, 1⟩] rfl rfl hys hown6 hg6 hat6); clear hown6 hg6 hat6)
        generalize hw7 : w6.setCell ⟨G, 1, none⟩ (.slice VB (xs.length + 2) vb) = w7 at HP6 ⊢
        clear hw7 q0 q1 q2 q3 q4 c1
        go_wp2
        go_roundw
        case rel => exact ⟨k + 1, by omega, by go_num, _, _, by have := HXL.out; simp; omega, HP6.out⟩
        case measure => simp [intOf]; omega
    · obtain rfl : k = l.length := by omega
      have hlt' : ¬ (l.length : Int) < l.length := by omega
      have c1 := HP1.out.c1
      have HPY := Lib.hid (HP1.out.below ((Below.refl _ _).alloc (Nat.le_refl _) (.cells #[.int .i64 24, .int .i64 0, .int .i64 0, .int .i64 0, .int .u32 0] 50)))
      have HSY := Lib.hid (ins_lit wr ([⟨24, 0, 0, 0, 0⟩] : List InsZ) #[.int .i64 24, .int .i64 0, .int .i64 0, .int .i64 0, .int .u32 0] 1 rfl rfl (by omega))
      go_upto_region 16 with (refine wpList_append_sl _ rfl (.tmp 68) (.tmp 70) 22 rfl w.heap.size 50 _ 5 40 Try.underlying22 info_ins rfl (by omega) (by omega) (.slice VA xs.length vc) xs.length (xs.flatMap insZC) rfl HPY.out.row (some ⟨wr.heap.size, 0, none⟩) 1 1 (([⟨24, 0, 0, 0, 0⟩] : List InsZ).flatMap insZC) rfl HSY.out (insZ_one _) (by omega) (by have := HPY.out.b.size; exact this) ?_; intro v6 w6 hown6 hg6 hat6; obtain ⟨VB, vb, rfl⟩ := own_shape hown6; obtain ⟨gc, gf⟩ := HPY.out.grown hg6; have hb6 := HPY.out.growb hg6; have HP6 := Lib.hid (HPY.out.more [⟨24, 0, 0, 0, 0⟩] rfl rfl (by intro j hj; rw [List.mem_singleton.1 hj]; simp) hown6 hg6 hat6); clear hown6 hg6 hat6)
      generalize hw7 : w6.setCell ⟨G, 1, none⟩ (.slice VB (xs.length + 1) vb) = w7 at HP6 ⊢
      clear hw7 gc gf c1 hb6
      have c0 := HP6.out.c0
      have c1 := HP6.out.c1
      have HRN := Lib.hid (HP6.out.runsz (by simp))
      go_wp2_with (go_at_call 4; (with_reducible refine HRN.out.mono ?_); rintro e W9 ⟨rfl, hb9⟩; have HB9 := Lib.hid hb9; clear hb9)
      go_ret
      exact ⟨rfl, HB9.out⟩
end
open Go.ChangeShapes Go.WideShapes Go.ChangeAt Go.RowKit Go.Deep
set_option maxRecDepth 100000

set_option maxRecDepth 100000 in
theorem vmJumps_lifted (os : Os) (started : os.Started) (H : Type) (enc : TypeId × Value → H) :
    ReturnsInHanded {} Try.checked os 8 .any (Rows.vmJumpsSpec.pre6 enc Try.prog Try.f8 Rows.vmJumpsRow.domain false) (Rows.vmJumpsSpec.post enc Try.prog Try.f8 false true false false) := by
  refine returnsInHanded_of_change (C := Try.checked) own08 started (by kernel_rfl) Try.func8
    (ChangeSpec.witness6 (enc := enc) (C := Try.checked) false ⟨#[], #[.slice none 0 0, .int .u32 0], []⟩ 8 (by kernel_rfl) (by kernel_rfl) (by kernel_rfl) (by kernel_rfl)) ?_
  intro W base args ds gs before hval0 hW hcnd _
  have hval : ∀ (j : Nat) t v, Try.f8.params[j]? = some t → args[j]? = some v → Value.okWide Try.prog W .any base t v := hval0
  have hW' := hW
  obtain ⟨p, q, hA0, hV, rfl, hfz, hnd⟩ := hW
  have hA : DataW.TrodAll enc Try.prog W 0 (fun _ => true) true Try.f8.params.toList args.toList ds p := hA0
  rw [Try.params8] at hA hval
  obtain ⟨v0, vs0, d0, ds0, p0, q0, hargs, rfl, rfl, h0, r0⟩ := trodAll_cons hA
  obtain ⟨v1, vs1, d1, ds1, p1, q1, rfl, rfl, rfl, h1, r1⟩ := trodAll_cons r0
  obtain ⟨rfl, rfl, rfl⟩ := trodAll_nil r1
  obtain rfl : args = #[v0, v1] := by cases args; simp_all
  obtain ⟨rfl, rfl⟩ := trodVars_none hV
  have k0h := h0
  have lt0 : ∀ x ∈ p0, x.block < W.heap.size := by obtain ⟨m, hm⟩ := k0h; exact DataW.trod_lt m _ _ _ hm
  have k1h := h1
  have lt1 : ∀ x ∈ p1, x.block < W.heap.size := by obtain ⟨m, hm⟩ := k1h; exact DataW.trod_lt m _ _ _ hm
  obtain ⟨A0, l0, c0, rfl, s0, m0⟩ := triples_in (hval 0 _ v0 rfl rfl) h0
  obtain ⟨z1, rfl, rfl, rfl, w1⟩ := open_int Try.underlying30 (hval 1 _ v1 rfl rfl) h1
  have w1 := wf_u32 w1
  obtain ⟨a1, rfl⟩ := Int.eq_ofNat_of_zero_le w1.1
  clear hA0 hval0
  refine (vmjumps_ok W l0 A0 c0 s0 m0 a1 (by omega)).mono fun e W' ⟨he, bel⟩ => ?_
  subst he
  exact ⟨_, rfl, _, _, _, [], _, [], hW', trodAll_mk1 (shut_bool Try.underlying4 _), (trodAll_cons_mk (Below.trod laidOut08 (by kernel_rfl) (of_decide_eq_true (by kernel_rfl)) k0h bel lt0) (trodAll_cons_mk (Below.trod laidOut08 (by kernel_rfl) (of_decide_eq_true (by kernel_rfl)) k1h bel lt1) trodAll_mk0)), rfl, bel.frame _, fun h => by cases h⟩

theorem vmJumps_over : Rows.vmJumpsRow.holds Try.pinned (OpenSpec.ofChange Rows.vmJumpsSpec) :=
  OpenClaim.holds_of_wide 8 Try.f8 rfl rfl rfl rfl rfl rfl rfl ⟨rfl, rfl, rfl, rfl, rfl⟩ rfl rfl rfl rfl rfl (by kernel_rfl) Try.func8 (by kernel_rfl)
    (of_decide_eq_true (by kernel_rfl)) (by unfold Func.isWrapper; first | (rw [if_pos (by decide +kernel)]; kernel_rfl) | (rw [if_neg (by decide +kernel)]; exact ⟨rfl, rfl⟩))
    (fun os started H enc _ => vmJumps_lifted os started H enc)

theorem vmJumps_holds : Rows.VmJumpsSaid := vmJumps_over
end Go.Proofs.Ytpnkbpjhbmacaaa
