/- DiskWaits: the walk. -/
import Derived.Test.YtmajfiljajbipaaAct08f
import Derived.IntWalk
set_option linter.unusedVariables false
set_option linter.unusedSimpArgs false
namespace Go.Proofs.Ytmajfiljajbipaa
open Go.RowKit

theorem u8_small (k : Nat) (h : k ≤ 255) : IntKind.u8.wrap (k : Int) = k := by simp [IntKind.wrap, IntKind.signed, IntKind.bits]; omega

theorem act_byte {S T okb : Nat → Prop} {wr W : World} (hbW : Below wr.heap.size wr W) {p : Nat} {v : Value} {d : Dk} (h : Both wr S T p v d) (x : Int) (y : UInt8) (g : Nat) (hby : By W okb (some ⟨g, 0, none⟩) 1 1 [y]) (hm : d.waits.length ≤ 1048575) (hoS : ∀ k, okb k → ¬ S k) :
    Calls Try.prog 27 #[.pointer (some ⟨p, 0, none⟩), v, .agg #[.int .i64 0, .int .i64 x, .int .i64 0, .slice (some ⟨g, 0, none⟩) 1 1]] W fun e w' =>
      ∃ S' T' LA lc WA wc, e = .returned (.tuple #[.agg #[.slice LA (d.act ⟨0, x, 0, [y]⟩).lasts.length lc, .slice WA (d.act ⟨0, x, 0, [y]⟩).waits.length wc, .int .i64 (d.act ⟨0, x, 0, [y]⟩).steps, .int .i64 (d.act ⟨0, x, 0, [y]⟩).armed], .bool true]) ∧
        Both w' S' T' p (rv LA (d.act ⟨0, x, 0, [y]⟩).lasts.length lc WA (d.act ⟨0, x, 0, [y]⟩).waits.length wc (d.act ⟨0, x, 0, [y]⟩).steps (d.act ⟨0, x, 0, [y]⟩).armed) (d.act ⟨0, x, 0, [y]⟩) ∧
        Kp S wr w' ∧ Kp S W w' ∧ (∀ k, S' k → S k ∨ W.heap.size ≤ k) ∧ (∀ k, T' k → T k ∨ W.heap.size ≤ k) := act_from hbW h ⟨0, x, 0, [y]⟩ (some ⟨g, 0, none⟩) 1 hby hm (by simp) hoS
set_option maxRecDepth 100000 in
set_option maxHeartbeats 4000000 in
theorem waits_main (w : World) (A : Option Addr) (c : Nat) (xs : List Int) (hs : Sl w Any 1 A xs.length c (xs.map (Value.int .i64))) (hl : xs.length ≤ 12) (torn : Int) :
    Calls Try.prog 8 #[.slice A xs.length c, .int .i64 torn] w fun e w' => e = .returned (.bool true) ∧ Below w.heap.size w w' := by
  have g1 : ¬ (12 : Int) < xs.length := by omega
  go_enter Try.func8, Try.ntmps8
  go_wp2_with fail
  refine (new_S _ 20 (by omega) (by omega)).mono ?_
  rintro e w1 ⟨p, S, rfl, hd1, hS1, hb1⟩
  go_wp2_with fail
  refine (new_ref w1 20 (by omega) (by omega)).mono ?_
  rintro e w2 ⟨hb2, v, rfl, hr2⟩
  obtain ⟨LA, lc, WA, wc, wcs, rfl, _, _, _⟩ := id hr2
  have hs1 := hb1.size
  have hs2 := hb2.size
  obtain ⟨d0, hd0⟩ : ∃ d0, d0 = Dk.of (List.replicate 20 0) := ⟨_, rfl⟩
  rw [← hd0] at hd1 hr2 ⊢
  have hd0w : d0.waits.length = 0 := by rw [hd0]; rfl
  have hd0n : d0.now = layAll d0.lasts d0.waits := by rw [hd0]; rfl
  clear hd0
  obtain ⟨X, hX⟩ : ∃ X, X = w2.alloc (.cells #[.slice LA d0.lasts.length lc, .slice WA d0.waits.length wc, .int .i64 d0.steps, .int .i64 d0.armed] 48) := ⟨_, rfl⟩
  have hbX : Below w2.heap.size w2 X := by rw [hX]; exact (Below.refl _ _).alloc (Nat.le_refl _) _
  have BX : Box4 X w2.heap.size (.slice LA d0.lasts.length lc) (.slice WA d0.waits.length wc) (.int .i64 d0.steps) (.int .i64 d0.armed) := by rw [hX]; exact Box4.new _ _ _ _ _
  have hsX : X.heap.size = w2.heap.size + 1 := by rw [hX]; simp
  have hbwX := (hb1.trans (hb2.mono hs1)).trans (hbX.mono (by omega))
  have hSl := hd1.1
  have hr2' := hr2.mono (T1 := fun k => w1.heap.size ≤ k ∧ k < w2.heap.size) (fun k hk ho => ⟨ho, hk⟩)
  have hboth : Both X S (fun k => w1.heap.size ≤ k ∧ k < w2.heap.size) p (rv LA d0.lasts.length lc WA d0.waits.length wc d0.steps d0.armed) d0 :=
    { dsk := (hd1.below hb2).below hbX, tl := fun k h => by omega, ref := hr2'.below hbX, ap := fun k h hs => by have := hSl k hs; omega, now := hd0n }
  have HDW := Lib.hid hd0w; clear hd0w
  have HDN := Lib.hid hd0n; clear hd0n
  go_wp2_with fail
  rw [← hX]
  clear hX
  go_loopw [9] (fun i wr => ∃ (k : Nat) (d : Dk) (S T : Nat → Prop) (LA : Option Addr) (lc : Nat) (WA : Option Addr) (wc : Nat), k ≤ xs.length ∧ i = .int .i64 k ∧ Both wr S T p (rv LA d.lasts.length lc WA d.waits.length wc d.steps d.armed) d ∧
      d.waits.length ≤ k ∧ Below w.heap.size w wr ∧ w2.heap.size < wr.heap.size ∧ (∀ k, S k → w.heap.size ≤ k ∧ k ≠ w2.heap.size) ∧ (∀ k, T k → w.heap.size ≤ k ∧ k ≠ w2.heap.size) ∧
      Box4 wr w2.heap.size (.slice LA d.lasts.length lc) (.slice WA d.waits.length wc) (.int .i64 d.steps) (.int .i64 d.armed))
    (fun i _ => xs.length - (intOf i).toNat)
  case atStart => exact ⟨0, d0, S, _, LA, lc, WA, wc, Nat.zero_le _, rfl, hboth, by rw [HDW.out]; exact Nat.le_refl _, hbwX, by omega, fun k h => by have := hS1 k h; have := hSl k h; omega, fun k h => by omega, BX⟩
  case round =>
    clear BX hboth hr2 hr2' hd1
    obtain ⟨k, d, S, T, LA, lc, WA, wc, hk, rfl, hbo, hdw, hb, hlt2, hSx, hTx, hBX⟩ := hrel
    by_cases hlt : k < xs.length
    · have hlt' : (k : Int) < xs.length := by omega
      obtain ⟨a, rfl, _, ha, hcs⟩ := hs.at_ (j := k) (by omega)
      have q0 : w.cell? (a.add k) = some (.int .i64 xs[k]) := hcs k _ (by simp [hlt])
      have ha' : (a.add k).block < w.heap.size := by rw [add_block]; exact ha
      obtain ⟨x, hx⟩ : ∃ x, x = xs[k] := ⟨_, rfl⟩
      rw [← hx] at q0
      clear hx
      have hdr : Below w.heap.size w wr.drew := ⟨hb.os, hb.tape, hb.output, hb.size, hb.block⟩
      have hdr0 : Below wr.heap.size wr wr.drew := ⟨rfl, rfl, rfl, Nat.le_refl _, fun _ _ => rfl⟩
      have hUl := hbo.dsk.1
      have hVl := hbo.tl
      have hbz := hb.size
      have hcv := Lib.hid (show IntKind.u8.wrap (IntKind.i64.wrap ((k : Int) + 1)) = (k : Int) + 1 from by rw [IntWalk.i64_in _ (by omega)]; exact u8_small (k + 1) (by omega))
      obtain ⟨y, hy⟩ : ∃ y : UInt8, y = UInt8.ofNat (k + 1) := ⟨_, rfl⟩
      have HY := Lib.hid hy; clear hy
      go_upto_region 8 with fail
      go_cut [10, 11] from 27 to 50 (fun s16 s17 wx => ActPost wr S T p (d.act ⟨0, x, 0, [y]⟩) s16 s17 wx)
      case first =>
        refine wp_region_noPanic ?_
        refine plan (.rd 0 (.rd 1 (.rd 2 (.rd 3 (.rd 4 (.rd 5 (.rd 6 (.rd 7 (.rd 8 (.two 9 (.rd 10 (.two 11 (.rd 12 (.rd 13 (.rd 14 (.eff 15 (.eff 16 (.eff 17 .done)))))) 15 (.eff 11 (.rd 12 (.rd 13 (.rd 14 (.eff 16 (.eff 17 .done)))))))) 15 (.eff 9 (.rd 10 (.eff 11 (.rd 12 (.rd 13 (.rd 14 (.eff 16 (.eff 17 .done)))))))))))))))))) [0, 1, 2, 3, 4, 5, 6, 7, 8, 9, 10, 11, 12, 13, 14, 15, 16, 17] (fun W => Below w.heap.size w W ∧ Box4 W w2.heap.size (.slice LA d.lasts.length lc) (.slice WA d.waits.length wc) (.int .i64 d.steps) (.int .i64 d.armed)) (by kernel_rfl) (by kernel_rfl) (fun _ _ _ _ _ h => h) ⟨hdr, hBX⟩ ?_
        repeat (refine pl_pure rfl (fun K hK => ?_); go_simp; refine hK _ ?_; clear hK K)
        refine pl_rd (rv LA d.lasts.length lc WA d.waits.length wc d.steps d.armed) rfl rfl (fun W hS => ?_) (fun K hK => ?_)
        · obtain ⟨b0, b1, b2, b3, bf⟩ := hS.2.cells
          simp [go_sem, rv, b0, b1, b2, b3]
        go_simp
        refine hK _ ?_
        clear hK K
        repeat (refine pl_pure rfl (fun K hK => ?_); go_simp; refine hK _ ?_; clear hK K)
        refine pl_rd (.int .i64 x) rfl rfl (fun W hS => ?_) (fun K hK => ?_)
        · have f0 := (hS.1.cell (p := a.add k) ha').trans q0
          simp [go_sem, f0]
        go_simp
        refine hK _ ?_
        clear hK K
        repeat (refine pl_pure rfl (fun K hK => ?_); go_simp; refine hK _ ?_; clear hK K)
        have hUn : ∀ j, wr.heap.size ≤ j → ¬ S j := fun j h1 h2 => by have := hUl _ h2; omega
        have hVn : ∀ j, wr.heap.size ≤ j → ¬ T j := fun j h1 h2 => by have := hVl _ h2; omega
        have hSk : ∀ j, S j → w.heap.size ≤ j := fun j h => (hSx j h).1
        have hS2 : ¬ S w2.heap.size := fun h => (hSx _ h).2 rfl
        have hbyte : ∀ W : World, Sl (W.alloc (.cells #[.int .u8 (IntKind.u8.wrap (IntKind.i64.wrap ((k : Int) + 1)))] 5)) (fun j => j = W.heap.size) 1 (some ⟨W.heap.size, 0, none⟩) 1 1 (bv [y]) := fun W => by
          have h := Sl.lit W 5 1 #[.int .u8 (IntKind.u8.wrap (IntKind.i64.wrap ((k : Int) + 1)))] 1 (by simp [maxLen]) rfl
          have e : bv [y] = [.int .u8 (IntKind.u8.wrap (IntKind.i64.wrap ((k : Int) + 1)))] := by rw [hcv.out, HY.out]; simp [bv]; omega
          rw [e]
          exact ⟨h.1, h.2.1, h.2.2.1, h.2.2.2.1, fun a ha hn => ⟨by injection ha with ha; subst ha; rfl, (h.2.2.2.2 a ha hn).2⟩⟩
        refine pl_two (pl_op rfl rfl (fun K hK => ?_)) (pl_op rfl rfl (fun K hK => ?_))
        · go_simp
          obtain ⟨Y, hY⟩ : ∃ Y, Y = wr.alloc (.cells #[.int .u8 (IntKind.u8.wrap (IntKind.i64.wrap ((k : Int) + 1)))] 5) := ⟨_, rfl⟩
          have hyY := hbyte wr
          rw [← hY] at hyY ⊢
          have hbY0 : Below wr.heap.size wr Y := by rw [hY]; exact (Below.refl _ _).alloc (Nat.le_refl _) _
          have hbY : Below wr.heap.size wr Y.drew := hbY0.drew
          have hsY : Y.heap.size ≤ wr.heap.size + 1 ∧ wr.heap.size + 1 ≤ Y.heap.size := by rw [hY]; simp
          have hbwY := hb.trans (hbY.mono hb.size)
          refine hK _ _ (fun _ => ⟨hbwY, hBX.below hbY⟩) ?_
          clear hK K hY
          have hyY' : By Y.drew (fun j => j = wr.heap.size) (some ⟨wr.heap.size, 0, none⟩) 1 1 [y] := hyY
          repeat (refine pl_pure rfl (fun K hK => ?_); go_simp; refine hK _ ?_; clear hK K)
          refine pl_two (pl_op rfl rfl (fun K hK => ?_)) (pl_op rfl rfl (fun K hK => ?_))
          · go_simp
            have C := act_byte hbY hbo x y _ hyY' (by omega) (fun j e => hUn j (by omega))
            (with_reducible refine C.mono ?_)
            rintro e w5 ⟨S5, T5, LA5, lc5, WA5, wc5, rfl, hbo5, hk5, hk5', hS5, hT5⟩
            have hS5 : ∀ j, S5 j → S j ∨ wr.heap.size ≤ j := fun j h => (hS5 j h).imp id (fun h => by have : Y.heap.size ≤ j := h; omega)
            have hT5 : ∀ j, T5 j → T j ∨ wr.heap.size ≤ j := fun j h => (hT5 j h).imp id (fun h => by have : Y.heap.size ≤ j := h; omega)
            have hbw5 := chg_below hb hk5 hb.size hSk
            have B5 := hBX.keep hk5 hS2
            refine hK _ _ (fun _ => ⟨hbw5, B5⟩) ?_
            clear hK K
            repeat (refine pl_pure rfl (fun K hK => ?_); go_simp; refine hK _ ?_; clear hK K)
            refine pl_eff rfl rfl (fun K hK => ?_)
            go_simp
            refine hK _ _ (fun _ => ⟨hbw5.alloc hbw5.size _, B5.alloc _⟩) ?_
            clear hK K
            refine pl_eff rfl rfl (fun K hK => ?_)
            go_simp
            refine hK _ _ (fun _ => ⟨hbw5.alloc hbw5.size _, B5.alloc _⟩) ?_
            clear hK K
            refine pl_eff rfl rfl (fun K hK => ?_)
            go_simp
            refine hK _ _ (fun _ => ⟨hbw5.alloc hbw5.size _, B5.alloc _⟩) ?_
            clear hK K
            refine pl_done ?_
            refine NoPanic.normal ?_
            go_wp2_with fail
            go_meet
            exact actPost_alloc hbo5 hk5 hS5 hT5
          · go_simp
            obtain ⟨Z, hZ⟩ : ∃ Z, Z = Y.alloc (.cells #[.slice none 0 0, .slice none 0 0, .int .i64 0, .int .i64 0] 48) := ⟨_, rfl⟩
            have hbZ : Below Y.heap.size Y Z.drew := by rw [hZ]; exact ((Below.refl _ _).alloc (Nat.le_refl _) _).drew
            have BZ : Box4 Z Y.heap.size (.slice none 0 0) (.slice none 0 0) (.int .i64 0) (.int .i64 0) := by rw [hZ]; exact Box4.new _ _ _ _ _
            have hsZ : Z.heap.size ≤ Y.heap.size + 1 ∧ Y.heap.size + 1 ≤ Z.heap.size := by rw [hZ]; simp
            have hbYZ : Below wr.heap.size wr Z.drew := hbY0.trans (hbZ.mono (by omega))
            have hbwZ := hb.trans (hbYZ.mono hb.size)
            rw [← hZ]
            refine hK _ _ (fun _ => ⟨hbwZ, hBX.below hbYZ⟩) ?_
            clear hK K hZ
            have hyZ' : By Z.drew (fun j => j = wr.heap.size) (some ⟨wr.heap.size, 0, none⟩) 1 1 [y] := Sl.move (w := Y) hyY (Mv.of_below hbZ _)
            refine pl_eff rfl rfl (fun K hK => ?_)
            go_simp
            have C := act_byte hbYZ hbo x y _ hyZ' (by omega) (fun j e => hUn j (by omega))
            (with_reducible refine C.mono ?_)
            rintro e w5 ⟨S5, T5, LA5, lc5, WA5, wc5, rfl, hbo5, hk5, hk5', hS5, hT5⟩
            have hS5 : ∀ j, S5 j → S j ∨ Y.heap.size < j := fun j h => (hS5 j h).imp id (fun h => by have : Z.heap.size ≤ j := h; omega)
            have hT5 : ∀ j, T5 j → T j ∨ Y.heap.size < j := fun j h => (hT5 j h).imp id (fun h => by have : Z.heap.size ≤ j := h; omega)
            have hbw5 := chg_below hb hk5 hb.size hSk
            have B5 := hBX.keep hk5 hS2
            have C5 : Box4 w5 Y.heap.size (.slice none 0 0) (.slice none 0 0) (.int .i64 0) (.int .i64 0) := Box4.keep (w := Z.drew) BZ hk5' (hUn _ (by omega))
            refine hK _ _ (fun _ => ⟨hbw5, B5⟩) ?_
            clear hK K
            repeat (refine pl_pure rfl (fun K hK => ?_); go_simp; refine hK _ ?_; clear hK K)
            obtain ⟨b0, b1, b2, b3, bf⟩ := C5.cells
            have hs5 := hk5.size
            refine pl_eff rfl rfl (fun K hK => ?_)
            go_simp
            refine hK _ _ (fun _ => ⟨below_set4 hbw5 Y.heap.size (by omega) _ _ _ _, B5.set4 (by omega) _ _ _ _⟩) ?_
            clear hK K
            refine pl_eff rfl rfl (fun K hK => ?_)
            go_simp
            refine hK _ _ (fun _ => ⟨below_set4 hbw5 Y.heap.size (by omega) _ _ _ _, B5.set4 (by omega) _ _ _ _⟩) ?_
            clear hK K
            refine pl_done ?_
            refine NoPanic.normal ?_
            go_wp2_with fail
            go_meet
            exact actPost_store hbo5 hk5 hS5 hT5 (by omega) (hUn _ (by omega)) (hVn _ (by omega)) C5
        · go_simp
          obtain ⟨Y, hY⟩ : ∃ Y, Y = wr.alloc (.cells #[.slice none 0 0, .slice none 0 0, .int .i64 0, .int .i64 0] 48) := ⟨_, rfl⟩
          have hbY0 : Below wr.heap.size wr Y := by rw [hY]; exact (Below.refl _ _).alloc (Nat.le_refl _) _
          have hbY : Below wr.heap.size wr Y.drew := hbY0.drew
          have BY : Box4 Y wr.heap.size (.slice none 0 0) (.slice none 0 0) (.int .i64 0) (.int .i64 0) := by rw [hY]; exact Box4.new _ _ _ _ _
          have hsY : Y.heap.size ≤ wr.heap.size + 1 ∧ wr.heap.size + 1 ≤ Y.heap.size := by rw [hY]; simp
          have hbwY := hb.trans (hbY.mono hb.size)
          rw [← hY]
          refine hK _ _ (fun _ => ⟨hbwY, hBX.below hbY⟩) ?_
          clear hK K hY
          refine pl_eff rfl rfl (fun K hK => ?_)
          go_simp
          obtain ⟨Z, hZ⟩ : ∃ Z, Z = Y.alloc (.cells #[.int .u8 (IntKind.u8.wrap (IntKind.i64.wrap ((k : Int) + 1)))] 5) := ⟨_, rfl⟩
          have hyZ := hbyte Y
          rw [← hZ] at hyZ ⊢
          have hbZ : Below Y.heap.size Y Z.drew := by rw [hZ]; exact ((Below.refl _ _).alloc (Nat.le_refl _) _).drew
          have hsZ : Z.heap.size ≤ Y.heap.size + 1 ∧ Y.heap.size + 1 ≤ Z.heap.size := by rw [hZ]; simp
          have hbYZ : Below wr.heap.size wr Z.drew := hbY0.trans (hbZ.mono (by omega))
          have hbwZ := hb.trans (hbYZ.mono hb.size)
          have BZ : Box4 Z wr.heap.size (.slice none 0 0) (.slice none 0 0) (.int .i64 0) (.int .i64 0) := BY.below (w1 := Z.drew) hbZ
          refine hK _ _ (fun _ => ⟨hbwZ, hBX.below hbYZ⟩) ?_
          clear hK K hZ
          have hyZ' : By Z.drew (fun j => j = Y.heap.size) (some ⟨Y.heap.size, 0, none⟩) 1 1 [y] := hyZ
          repeat (refine pl_pure rfl (fun K hK => ?_); go_simp; refine hK _ ?_; clear hK K)
          refine pl_eff rfl rfl (fun K hK => ?_)
          go_simp
          have C := act_byte hbYZ hbo x y _ hyZ' (by omega) (fun j e => hUn j (by omega))
          (with_reducible refine C.mono ?_)
          rintro e w5 ⟨S5, T5, LA5, lc5, WA5, wc5, rfl, hbo5, hk5, hk5', hS5, hT5⟩
          have hS5 : ∀ j, S5 j → S j ∨ wr.heap.size < j := fun j h => (hS5 j h).imp id (fun h => by have : Z.heap.size ≤ j := h; omega)
          have hT5 : ∀ j, T5 j → T j ∨ wr.heap.size < j := fun j h => (hT5 j h).imp id (fun h => by have : Z.heap.size ≤ j := h; omega)
          have hbw5 := chg_below hb hk5 hb.size hSk
          have B5 := hBX.keep hk5 hS2
          have C5 : Box4 w5 wr.heap.size (.slice none 0 0) (.slice none 0 0) (.int .i64 0) (.int .i64 0) := Box4.keep (w := Z.drew) BZ hk5' (hUn _ (by omega))
          refine hK _ _ (fun _ => ⟨hbw5, B5⟩) ?_
          clear hK K
          repeat (refine pl_pure rfl (fun K hK => ?_); go_simp; refine hK _ ?_; clear hK K)
          obtain ⟨b0, b1, b2, b3, bf⟩ := C5.cells
          have hs5 := hk5.size
          refine pl_eff rfl rfl (fun K hK => ?_)
          go_simp
          refine hK _ _ (fun _ => ⟨below_set4 hbw5 wr.heap.size (by omega) _ _ _ _, B5.set4 (by omega) _ _ _ _⟩) ?_
          clear hK K
          refine pl_eff rfl rfl (fun K hK => ?_)
          go_simp
          refine hK _ _ (fun _ => ⟨below_set4 hbw5 wr.heap.size (by omega) _ _ _ _, B5.set4 (by omega) _ _ _ _⟩) ?_
          clear hK K
          refine pl_done ?_
          refine NoPanic.normal ?_
          go_wp2_with fail
          go_meet
          exact actPost_store hbo5 hk5 hS5 hT5 (by omega) (hUn _ (by omega)) (hVn _ (by omega)) C5
      case rest =>
        obtain ⟨U5, V5, LA5, lc5, WA5, wc5, B16, rfl, rfl, hbo5, hk5, hU5, hV5, hB16, hB16l⟩ := hcut
        have hw5 := act_waits d ⟨0, x, 0, [y]⟩
        obtain ⟨d5, hd5⟩ : ∃ d5, d5 = d.act ⟨0, x, 0, [y]⟩ := ⟨_, rfl⟩
        rw [← hd5] at hbo5 hB16 hw5
        clear hd5
        have hbw5 := chg_below hb hk5 hb.size (fun j h => (hSx j h).1)
        have B14c := hBX.keep hk5 (fun h => (hSx _ h).2 rfl)
        have hs5 := hk5.size
        obtain ⟨b0, b1, b2, b3, bf⟩ := hB16.cells
        obtain ⟨c0, c1, c2, c3, cf⟩ := B14c.cells
        have hkF := (((((Kp.refl (fun b => b = w2.heap.size) wc).setCell (p := ⟨w2.heap.size, 0, none⟩) (.inl rfl) (.slice LA5 d5.lasts.length lc5)).setCell (p := ⟨w2.heap.size, 1, none⟩) (.inl rfl) (.slice WA5 d5.waits.length wc5)).setCell (p := ⟨w2.heap.size, 2, none⟩) (.inl rfl) (.int .i64 d5.steps)).setCell (p := ⟨w2.heap.size, 3, none⟩) (.inl rfl) (.int .i64 d5.armed))
        have hU6 : ∀ j, U5 j → w.heap.size ≤ j ∧ j ≠ w2.heap.size := fun j h => by
          rcases hU5 j h with h1 | h1
          · exact hSx j h1
          · omega
        have hV6 : ∀ j, V5 j → w.heap.size ≤ j ∧ j ≠ w2.heap.size := fun j h => by
          rcases hV5 j h with h1 | h1
          · exact hTx j h1
          · omega
        go_wp2
        exact ⟨⟨k + 1, d5, U5, V5, LA5, lc5, WA5, wc5, hlt, by simp, hbo5.kp hkF (fun k h e => (hU6 k h).2 e) (fun k h e => (hV6 k h).2 e), by omega, below_set4 hbw5 w2.heap.size (by omega) _ _ _ _, Nat.lt_of_lt_of_le hlt2 (Nat.le_trans hs5 hkF.size), hU6, hV6, B14c.put4 _ _ _ _⟩, by simp [intOf]; omega⟩
    · have hlt' : ¬ (k : Int) < xs.length := by omega
      obtain rfl : k = xs.length := by omega
      obtain ⟨hp, hbig, hsame, hfit⟩ := hbo.dsk.props
      have HS := Lib.hid hsame; clear hsame
      obtain ⟨wo, rfl⟩ : ∃ wo : World, wo = wr := ⟨_, rfl⟩
      have hzo := hb.size
      go_wp2_with fail
      go_loopw [12] (fun i wx => ∃ j : Nat, j ≤ d.waits.length + 1 ∧ i = .int .i64 j ∧ Below wo.heap.size wo wx) (fun i _ => d.waits.length + 1 - (intOf i).toNat)
      case atStart => exact ⟨0, by omega, rfl, Below.refl _ _⟩
      case round =>
        obtain ⟨j, hj, rfl, hbj⟩ := hrel
        have hbwj := hb.trans (hbj.mono hb.size)
        have hboj := hbo.below hbj
        obtain ⟨fp, hfp, hdk⟩ := hboj.dsk.2
        have WD := waits_disk hdk
        have BJ := hBX.below hbj
        have hzj := hbj.size
        by_cases hlj : j ≤ d.waits.length
        · have hlj' : (j : Int) ≤ d.waits.length := by omega
          go_wp2_with (go_at_call 23; refine WD.mono ?_; rintro e w' ⟨rfl, rfl⟩)
          refine (crash_S hboj.dsk j torn (by omega)).mono ?_
          rintro e w5 ⟨q, Sq, rfl, hdq, hSq, hb5⟩
          have hz5 := hb5.size
          have hboj5 := hboj.below hb5
          have CR := crash_ref w5 _ d hboj5.ref (by rw [HS.out]; omega) (by rw [HS.out]; omega) (by omega) (by rw [HS.out]; exact hfit) j torn
          obtain ⟨b0, b1, b2, b3, bf⟩ := (BJ.below hb5).cells
          go_wp2_with (go_at_call 17; refine (num_any _ _).mono ?_; rintro e w' ⟨rfl, rfl⟩)
          refine CR.mono ?_
          rintro e w6 ⟨hb6, v6, rfl, hr6⟩
          have hz6 := hb6.size
          obtain ⟨LB, lcb, WB, wcb, wcsb, rfl, _, _, _⟩ := id hr6
          have IS := is_true w6 q _ (d.crash j torn) (hdq.below hb6) hr6 (by simp [Dk.crash, Dk.of]) rfl
          have hbw5 := (hbj.trans (hb5.mono hzj)).trans (hb6.mono (by omega))
          go_wp2_with (go_at_call 26; refine IS.mono ?_; rintro e w7 ⟨rfl, hb7⟩)
          exact ⟨⟨j + 1, by omega, by simp, hbw5.trans (hb7.mono (by omega))⟩, by simp [intOf]; omega⟩
        · have hlj' : ¬ (j : Int) ≤ d.waits.length := by omega
          go_wp2_with (first | (go_at_call 23; refine WD.mono ?_; rintro e w' ⟨rfl, rfl⟩) | (go_at_call 17; refine (num_any _ _).mono ?_; rintro e w' ⟨rfl, rfl⟩) | (go_at_call 12; refine (works_ok _).mono ?_; rintro e w7 ⟨rfl, hb7⟩))
          go_ret
          exact ⟨rfl, hbwj.trans (hb7.mono hbwj.size)⟩

theorem waits_walk (w : World) (A : Option Addr) (c : Nat) (xs : List Int) (hs : Sl w Any 1 A xs.length c (xs.map (Value.int .i64))) (torn : Int) :
    Calls Try.prog 8 #[.slice A xs.length c, .int .i64 torn] w fun e w' => e = .returned (.bool true) ∧ Below w.heap.size w w' := by
  by_cases hl : xs.length ≤ 12
  · exact waits_main w A c xs hs hl torn
  · have g1 : (12 : Int) < xs.length := by omega
    go_enter Try.func8, Try.ntmps8
    go_wp2_with (go_at_call 12; refine (works_ok _).mono ?_; rintro e w1 ⟨rfl, hb⟩)
    go_ret
    exact ⟨rfl, hb⟩
end Go.Proofs.Ytmajfiljajbipaa
