/- VmCalls, for every input: it returns true, and each argument reads afterwards as it read before. No condition. -/
import Derived.Test.YtpnkbpjhbmacaaaRow07
import Derived.Test.YtpnkbpjhbmacaaaVl4
set_option linter.unusedVariables false
set_option linter.unusedSimpArgs false
namespace Go.Proofs.Ytpnkbpjhbmacaaa
section
open Go.RowKit
theorem word_at (l : List Nat) (n x : Nat) (h : l[n]? = some x) : (l.map fun v : Nat => Value.int .u32 (v : Int))[n]? = some (.int .u32 (x : Int)) := by simp [h]
theorem bool_at : ∀ (l : List Bool) (n : Nat) (b : Bool), l[n]? = some b → (l.flatMap fun b => [Value.bool b])[n]? = some (.bool b)
  | [], n, b, h => by simp at h
  | p :: l, 0, b, h => by
    simp only [List.getElem?_cons_zero, Option.some.injEq] at h
    subst h
    rfl
  | p :: l, n + 1, b, h => by
    rw [List.getElem?_cons_succ] at h
    exact bool_at l n b h
theorem PB.start0 (w : World) : PB w w.heap.size 0 (.slice none 0 0) [] (w.alloc (.cells #[.int .i64 0, .slice none 0 0] 24)) := by
  refine ⟨(Below.refl _ _).alloc (Nat.le_refl _) _, Nat.le_refl _, by simp, ?_, World.ownsRow_nil _ _ _ _, by simp [Value.ownBlock], fun _ h => by simp at h⟩
  exact Blk.new w _ _ 2 rfl _ fun j hj => by
    have hc : j = 0 ∨ j = 1 := by omega
    rcases hc with rfl | rfl <;> rfl
set_option maxRecDepth 100000 in
set_option maxHeartbeats 4000000 in
theorem vmcalls_ok (w : World) (l : List Nat) (LA : Option Addr) (lc : Nat) (hl : Wd w Any LA l.length lc l) (hlw : ∀ v, v ∈ l → v < 4294967296) (ans : List Nat) (AA : Option Addr) (ac : Nat) (hans : Wd w Any AA ans.length ac ans) (hav : ∀ v, v ∈ ans → v < 4294967296)
    (sets : List Bool) (SA : Option Addr) (sc : Nat) (hs : Sl w Any 1 SA sets.length sc (sets.flatMap fun b => [Value.bool b])) :
    Calls Try.prog 7 #[.slice LA l.length lc, .slice AA ans.length ac, .slice SA sets.length sc] w fun e w' => e = .returned (.bool true) ∧ Below w.heap.size w w' := by
  have HKN := Lib.hid known_ok
  have HL := Lib.hid hl; have HLW := Lib.hid hlw; have HAN := Lib.hid hans; have HAV := Lib.hid hav; have HST := Lib.hid hs; clear hl hlw hans hav hs
  by_cases h1 : 20 < l.length
  · have h1' : (20 : Int) < l.length := by omega
    go_enter Try.func7, Try.ntmps7
    go_wp2_with (go_at_call 12; (with_reducible refine (HKN.out _).mono ?_); rintro e W10 ⟨rfl, hb10⟩; have HB10 := Lib.hid hb10; clear hb10)
    go_ret
    exact ⟨rfl, HB10.out⟩
  have h1' : ¬ (20 : Int) < l.length := by omega
  by_cases h2 : 20 < ans.length
  · have h2' : (20 : Int) < ans.length := by omega
    go_enter Try.func7, Try.ntmps7
    go_wp2_with (go_at_call 12; (with_reducible refine (HKN.out _).mono ?_); rintro e W10 ⟨rfl, hb10⟩; have HB10 := Lib.hid hb10; clear hb10)
    go_ret
    exact ⟨rfl, HB10.out⟩
  have h2' : ¬ (20 : Int) < ans.length := by omega
  by_cases h3 : sets.length < l.length
  · have h3' : (sets.length : Int) < l.length := by omega
    go_enter Try.func7, Try.ntmps7
    go_wp2_with (go_at_call 12; (with_reducible refine (HKN.out _).mono ?_); rintro e W10 ⟨rfl, hb10⟩; have HB10 := Lib.hid hb10; clear hb10)
    go_ret
    exact ⟨rfl, HB10.out⟩
  have h3' : ¬ (sets.length : Int) < l.length := by omega
  by_cases h4 : 40 < sets.length
  · have h4' : (40 : Int) < sets.length := by omega
    go_enter Try.func7, Try.ntmps7
    go_wp2_with (go_at_call 12; (with_reducible refine (HKN.out _).mono ?_); rintro e W10 ⟨rfl, hb10⟩; have HB10 := Lib.hid hb10; clear hb10)
    go_ret
    exact ⟨rfl, HB10.out⟩
  have h4' : ¬ (40 : Int) < sets.length := by omega
  go_enter Try.func7, Try.ntmps7
  go_upto_region 4 with fail
  have hP := PB.start0 w
  generalize hW3 : w.alloc (.cells #[.int .i64 0, .slice none 0 0] 24) = W3 at hP ⊢
  have HP := Lib.hid hP; clear hP hW3
  go_wp2
  go_loopw [8] (fun iv wr => ∃ k : Nat, k ≤ l.length ∧ iv = .int .i64 (k : Int) ∧ ∃ V xs, xs.length ≤ 3 * k ∧ PB w w.heap.size 0 V xs wr) (fun iv _ => l.length - (intOf iv).toNat)
  case atStart => exact ⟨0, Nat.zero_le _, rfl, _, _, by simp, HP.out⟩
  case round =>
    obtain ⟨k, hk, rfl, V, xs, hxl, hp⟩ := hrel
    obtain ⟨VA, vc, rfl⟩ := own_shape hp.row
    have HP1 := Lib.hid hp; clear hp
    have HXL := Lib.hid hxl
    have hxl2 : xs.length ≤ 300 := by omega
    clear hxl
    obtain ⟨wc, hwc⟩ : ∃ wc : World, wc = wr := ⟨_, rfl⟩
    rw [← hwc] at HP1 ⊢
    clear hwc
    by_cases hlt : k < l.length
    · have hlt' : (k : Int) < l.length := by omega
      have hlt2 : (k : Int) < sets.length := by omega
      obtain ⟨x, hx⟩ : ∃ y, l[k]? = some y := ⟨_, List.getElem?_eq_getElem hlt⟩
      obtain ⟨b, hb⟩ : ∃ y, sets[k]? = some y := ⟨_, List.getElem?_eq_getElem (by omega)⟩
      have hw := HLW.out x (List.mem_of_getElem? hx)
      obtain ⟨a, rfl, _, hal, hac⟩ := Sl.at_ HL.out (j := k) (by omega)
      obtain ⟨d, rfl, _, hdl, hdc⟩ := HST.out.at_ (j := k) (by omega)
      have HC1 := Lib.hid (hac _ _ (word_at l k x hx))
      have hd1 : wc.cell? (d.add k) = some (.bool b) := (Kp.of_below HP1.out.b No).cell (hdc _ _ (bool_at sets k b hb)) (fun e => e)
      have HAC := Lib.hid hac; have HDC := Lib.hid hdc
      clear hac hdc hx hb
      obtain ⟨m, hm⟩ : ∃ m, m = x % 1000 := ⟨_, rfl⟩
      obtain ⟨mm, hmm⟩ : ∃ mm, mm = 2 * m := ⟨_, rfl⟩
      obtain ⟨m8, hm8⟩ : ∃ m8, m8 = x % 8 := ⟨_, rfl⟩
      obtain ⟨k5, hk5⟩ : ∃ k5, k5 = k % 5 := ⟨_, rfl⟩
      obtain ⟨d5, hd5⟩ : ∃ d5, d5 = 1 + k5 := ⟨_, rfl⟩
      have e1 : (x : Int).tmod 1000 = (m : Int) := by rw [Int.tmod_eq_emod_of_nonneg (by omega)]; omega
      have e2 : IntKind.u32.wrap (2 * (m : Int)) = (mm : Int) := by rw [IntWalk.u32_in _ (by omega)]; omega
      have e3 : (x : Int).tmod 8 = (m8 : Int) := by rw [Int.tmod_eq_emod_of_nonneg (by omega)]; omega
      have e5 : (k : Int).tmod 5 = (k5 : Int) := by rw [Int.tmod_eq_emod_of_nonneg (by omega)]; omega
      have e6 : IntKind.i64.wrap (1 + (k5 : Int)) = (d5 : Int) := by rw [IntWalk.i64_in _ (by omega)]; omega
      have b1 : m < 4294967296 := by omega
      have b2 : mm < 4294967296 := by omega
      have b3 : m8 < 4294967296 := by omega
      have HY2 := Lib.hid (show ∀ i, i ∈ ([⟨1, (d5 : Int), 0, 0, x⟩, ⟨1, 6, 0, 0, mm⟩] : List InsZ) → i.imm < 4294967296 from by intro i hi; simp only [List.mem_cons, List.not_mem_nil, or_false] at hi; rcases hi with rfl | rfl <;> first | exact hw | exact b2)
      have HY1 := Lib.hid (show ∀ i, i ∈ ([⟨23, 0, 0, 0, m8⟩] : List InsZ) → i.imm < 4294967296 from by intro i hi; rw [List.mem_singleton.1 hi]; exact b3)
      clear hm hmm hm8 hk5 hd5
      cases b with
      | true =>
        go_upto_region 8 with fail
        refine wp_region_noPanic ?_
        refine plan (.rd 0 (.rd 1 (.rd 2 (.rd 3 (.rd 4 (.rd 5 (.rd 6 (.rd 7 (.rd 8 (.rd 9 (.rd 10 (.rd 11 (.rd 12 (.rd 13 (.rd 14 (.rd 15 (.rd 16 (.eff 17 (.eff 18 (.eff 19 (.eff 20 .done))))))))))))))))))))) [0, 1, 2, 3, 4, 5, 6, 7, 8, 9, 10, 11, 12, 13, 14, 15, 16, 17, 18] (fun W => Below w.heap.size w W ∧ W.cell? ⟨w.heap.size, 1, none⟩ = some (.slice VA xs.length vc)) (by kernel_rfl) (by kernel_rfl) (fun _ _ _ _ _ h => h) ⟨HP1.out.drewp.b, HP1.out.drewp.c1⟩ ?_
        repeat (refine pl_pure rfl (fun K hK => ?_); go_simp; refine hK _ ?_; clear hK K)
        refine pl_rd (.slice VA xs.length vc) rfl rfl (fun W hS => ?_) (fun K hK => ?_)
        · have f0 := hS.2
          simp [go_sem, f0]
        go_simp
        refine hK _ ?_
        clear hK K
        repeat (refine pl_pure rfl (fun K hK => ?_); go_simp; refine hK _ ?_; clear hK K)
        refine pl_rd (.int .u32 (x : Int)) rfl rfl (fun W hS => ?_) (fun K hK => ?_)
        · have f0 := (Kp.of_below hS.1 No).cell HC1.out (fun e => e)
          simp [go_sem, f0]
        go_simp
        refine hK _ ?_
        clear hK K
        repeat (refine pl_pure rfl (fun K hK => ?_); go_simp; refine hK _ ?_; clear hK K)
        refine pl_rd (.int .u32 (x : Int)) rfl rfl (fun W hS => ?_) (fun K hK => ?_)
        · have f0 := (Kp.of_below hS.1 No).cell HC1.out (fun e => e)
          simp [go_sem, f0]
        go_simp
        refine hK _ ?_
        clear hK K
        repeat (refine pl_pure rfl (fun K hK => ?_); go_simp; refine hK _ ?_; clear hK K)
        refine pl_eff rfl rfl (fun K hK => ?_)
        go_simp
        generalize hob : Obj.cells _ 50 = ob
        have ho : ob = .cells (([⟨1, (d5 : Int), 0, 0, x⟩, ⟨1, 6, 0, 0, mm⟩] : List InsZ).flatMap insZC).toArray 50 := by rw [← hob]; rfl
        clear hob
        have HPY := Lib.hid (HP1.out.below ((Below.refl _ _).alloc (Nat.le_refl _) ob))
        have HPD := Lib.hid HPY.out.drewp
        have hsy : Sl (wc.alloc ob) Any 5 (some ⟨wc.heap.size, 0, none⟩) 2 2 (([⟨1, (d5 : Int), 0, 0, x⟩, ⟨1, 6, 0, 0, mm⟩] : List InsZ).flatMap insZC) := by rw [ho]; exact ins_lit wc [⟨1, (d5 : Int), 0, 0, x⟩, ⟨1, 6, 0, 0, mm⟩] _ 2 rfl rfl (by omega)
        have HSY := Lib.hid hsy.drew
        clear ho hsy
        refine hK _ _ (fun _ => ⟨HPD.out.b, HPD.out.c1⟩) ?_
        clear hK K
        refine pl_eff rfl rfl (fun K hK => ?_)
        refine wp_append_sl ((wc.alloc ob).drew) (.tmp 42) (.tmp 58) 22 rfl w.heap.size 50 _ 5 40 Try.underlying22 info_ins rfl (by omega) (by omega) (.slice VA xs.length vc) xs.length (xs.flatMap insZC) rfl HPD.out.row (some ⟨wc.heap.size, 0, none⟩) 2 2 (([⟨1, (d5 : Int), 0, 0, x⟩, ⟨1, 6, 0, 0, mm⟩] : List InsZ).flatMap insZC) rfl HSY.out (insZ_one _) (by omega) (by have := HPD.out.b.size; exact this) ?_
        intro v6 w6 hown6 hg6 hat6
        obtain ⟨VB, vb, rfl⟩ := own_shape hown6
        obtain ⟨gc, gf⟩ := HPD.out.grown hg6
        have hb6 := HPD.out.growb hg6
        have HP6 := Lib.hid (HPD.out.more [⟨1, (d5 : Int), 0, 0, x⟩, ⟨1, 6, 0, 0, mm⟩] rfl rfl HY2.out hown6 hg6 hat6)
        clear hown6 hg6 hat6
        refine hK _ _ (fun _ => ⟨hb6, gc⟩) ?_
        clear hK K
        refine pl_eff rfl rfl (fun K hK => ?_)
        go_simp
        refine hK _ _ (fun h => by cases h) ?_
        clear hK K
        refine pl_eff rfl rfl (fun K hK => ?_)
        go_simp
        refine hK _ _ (fun h => by cases h) ?_
        clear hK K
        refine pl_done ?_
        refine NoPanic.normal ?_
        generalize hw7 : w6.setCell ⟨w.heap.size, 1, none⟩ (.slice VB (xs.length + 2) vb) = w7 at HP6 ⊢
        clear hw7 gc gf hb6
        obtain ⟨ys, hys⟩ : ∃ ys, ys = xs ++ [⟨1, (d5 : Int), 0, 0, x⟩, ⟨1, 6, 0, 0, mm⟩] := ⟨_, rfl⟩
        have hyl : xs.length + 2 = ys.length := by rw [hys]; simp
        have hp1b := HP6.out
        rw [← hys, hyl] at hp1b
        rw [hyl]
        have HP1b := Lib.hid hp1b
        have HXLb := Lib.hid (show ys.length ≤ 3 * k + 2 from by have := HXL.out; omega)
        have hxl3 : ys.length ≤ 300 := by have := HXLb.out; omega
        clear HP6 hyl hys hd1 hp1b HPY HPD HSY
        go_upto_region 9 with fail
        refine wp_region_noPanic ?_
        refine plan (.rd 0 (.rd 1 (.rd 2 (.rd 3 (.rd 4 (.rd 5 (.rd 6 (.rd 7 (.eff 8 (.eff 9 (.eff 10 (.eff 11 .done)))))))))))) [0, 1, 2, 3, 4, 5, 6, 7, 8, 9] (fun W => Below w.heap.size w W ∧ W.cell? ⟨w.heap.size, 1, none⟩ = some (.slice VB ys.length vb)) (by kernel_rfl) (by kernel_rfl) (fun _ _ _ _ _ h => h) ⟨HP1b.out.drewp.b, HP1b.out.drewp.c1⟩ ?_
        repeat (refine pl_pure rfl (fun K hK => ?_); go_simp; refine hK _ ?_; clear hK K)
        refine pl_rd (.slice VB ys.length vb) rfl rfl (fun W hS => ?_) (fun K hK => ?_)
        · have f0 := hS.2
          simp [go_sem, f0]
        go_simp
        refine hK _ ?_
        clear hK K
        repeat (refine pl_pure rfl (fun K hK => ?_); go_simp; refine hK _ ?_; clear hK K)
        refine pl_rd (.int .u32 (x : Int)) rfl rfl (fun W hS => ?_) (fun K hK => ?_)
        · have f0 := (Kp.of_below hS.1 No).cell HC1.out (fun e => e)
          simp [go_sem, f0]
        go_simp
        refine hK _ ?_
        clear hK K
        repeat (refine pl_pure rfl (fun K hK => ?_); go_simp; refine hK _ ?_; clear hK K)
        refine pl_eff rfl rfl (fun K hK => ?_)
        go_simp
        generalize hoc : Obj.cells _ 50 = oc
        have ho : oc = .cells (([⟨23, 0, 0, 0, m8⟩] : List InsZ).flatMap insZC).toArray 50 := by rw [← hoc]; rfl
        clear hoc
        have HPZ := Lib.hid (HP1b.out.below ((Below.refl _ _).alloc (Nat.le_refl _) oc))
        have HPE := Lib.hid HPZ.out.drewp
        have hsz : Sl (w7.alloc oc) Any 5 (some ⟨w7.heap.size, 0, none⟩) 1 1 (([⟨23, 0, 0, 0, m8⟩] : List InsZ).flatMap insZC) := by rw [ho]; exact ins_lit w7 [⟨23, 0, 0, 0, m8⟩] _ 1 rfl rfl (by omega)
        have HSZ := Lib.hid hsz.drew
        clear ho hsz
        refine hK _ _ (fun _ => ⟨HPE.out.b, HPE.out.c1⟩) ?_
        clear hK K
        refine pl_eff rfl rfl (fun K hK => ?_)
        refine wp_append_sl ((w7.alloc oc).drew) (.tmp 62) (.tmp 69) 22 rfl w.heap.size 50 _ 5 40 Try.underlying22 info_ins rfl (by omega) (by omega) (.slice VB ys.length vb) ys.length (ys.flatMap insZC) rfl HPE.out.row (some ⟨w7.heap.size, 0, none⟩) 1 1 (([⟨23, 0, 0, 0, m8⟩] : List InsZ).flatMap insZC) rfl HSZ.out (insZ_one _) (by omega) (by have := HPE.out.b.size; exact this) ?_
        intro v6 w9 hown6 hg6 hat6
        obtain ⟨VC, vd, rfl⟩ := own_shape hown6
        obtain ⟨gc, gf⟩ := HPE.out.grown hg6
        have hb6 := HPE.out.growb hg6
        have HP7 := Lib.hid (HPE.out.more [⟨23, 0, 0, 0, m8⟩] rfl rfl HY1.out hown6 hg6 hat6)
        clear hown6 hg6 hat6
        refine hK _ _ (fun _ => ⟨hb6, gc⟩) ?_
        clear hK K
        refine pl_eff rfl rfl (fun K hK => ?_)
        go_simp
        refine hK _ _ (fun h => by cases h) ?_
        clear hK K
        refine pl_eff rfl rfl (fun K hK => ?_)
        go_simp
        refine hK _ _ (fun h => by cases h) ?_
        clear hK K
        refine pl_done ?_
        refine NoPanic.normal ?_
        generalize hw7 : w9.setCell ⟨w.heap.size, 1, none⟩ (.slice VC (ys.length + 1) vd) = w8 at HP7 ⊢
        clear hw7 gc gf hb6
        go_wp2
        go_roundw
        case rel => exact ⟨k + 1, by omega, by go_num, _, _, by have := HXLb.out; simp; omega, HP7.out⟩
        case measure => simp [intOf]; omega
      | false =>
        go_upto_region 9 with fail
        clear hd1
        refine wp_region_noPanic ?_
        refine plan (.rd 0 (.rd 1 (.rd 2 (.rd 3 (.rd 4 (.rd 5 (.rd 6 (.rd 7 (.eff 8 (.eff 9 (.eff 10 (.eff 11 .done)))))))))))) [0, 1, 2, 3, 4, 5, 6, 7, 8, 9] (fun W => Below w.heap.size w W ∧ W.cell? ⟨w.heap.size, 1, none⟩ = some (.slice VA xs.length vc)) (by kernel_rfl) (by kernel_rfl) (fun _ _ _ _ _ h => h) ⟨HP1.out.drewp.b, HP1.out.drewp.c1⟩ ?_
        repeat (refine pl_pure rfl (fun K hK => ?_); go_simp; refine hK _ ?_; clear hK K)
        refine pl_rd (.slice VA xs.length vc) rfl rfl (fun W hS => ?_) (fun K hK => ?_)
        · have f0 := hS.2
          simp [go_sem, f0]
        go_simp
        refine hK _ ?_
        clear hK K
        repeat (refine pl_pure rfl (fun K hK => ?_); go_simp; refine hK _ ?_; clear hK K)
        refine pl_rd (.int .u32 (x : Int)) rfl rfl (fun W hS => ?_) (fun K hK => ?_)
        · have f0 := (Kp.of_below hS.1 No).cell HC1.out (fun e => e)
          simp [go_sem, f0]
        go_simp
        refine hK _ ?_
        clear hK K
        repeat (refine pl_pure rfl (fun K hK => ?_); go_simp; refine hK _ ?_; clear hK K)
        refine pl_eff rfl rfl (fun K hK => ?_)
        go_simp
        generalize hob : Obj.cells _ 50 = ob
        have ho : ob = .cells (([⟨23, 0, 0, 0, m8⟩] : List InsZ).flatMap insZC).toArray 50 := by rw [← hob]; rfl
        clear hob
        have HPY := Lib.hid (HP1.out.below ((Below.refl _ _).alloc (Nat.le_refl _) ob))
        have HPD := Lib.hid HPY.out.drewp
        have hsy : Sl (wc.alloc ob) Any 5 (some ⟨wc.heap.size, 0, none⟩) 1 1 (([⟨23, 0, 0, 0, m8⟩] : List InsZ).flatMap insZC) := by rw [ho]; exact ins_lit wc [⟨23, 0, 0, 0, m8⟩] _ 1 rfl rfl (by omega)
        have HSY := Lib.hid hsy.drew
        clear ho hsy
        refine hK _ _ (fun _ => ⟨HPD.out.b, HPD.out.c1⟩) ?_
        clear hK K
        refine pl_eff rfl rfl (fun K hK => ?_)
        refine wp_append_sl ((wc.alloc ob).drew) (.tmp 62) (.tmp 69) 22 rfl w.heap.size 50 _ 5 40 Try.underlying22 info_ins rfl (by omega) (by omega) (.slice VA xs.length vc) xs.length (xs.flatMap insZC) rfl HPD.out.row (some ⟨wc.heap.size, 0, none⟩) 1 1 (([⟨23, 0, 0, 0, m8⟩] : List InsZ).flatMap insZC) rfl HSY.out (insZ_one _) (by omega) (by have := HPD.out.b.size; exact this) ?_
        intro v6 w6 hown6 hg6 hat6
        obtain ⟨VB, vb, rfl⟩ := own_shape hown6
        obtain ⟨gc, gf⟩ := HPD.out.grown hg6
        have hb6 := HPD.out.growb hg6
        have HP6 := Lib.hid (HPD.out.more [⟨23, 0, 0, 0, m8⟩] rfl rfl HY1.out hown6 hg6 hat6)
        clear hown6 hg6 hat6
        refine hK _ _ (fun _ => ⟨hb6, gc⟩) ?_
        clear hK K
        refine pl_eff rfl rfl (fun K hK => ?_)
        go_simp
        refine hK _ _ (fun h => by cases h) ?_
        clear hK K
        refine pl_eff rfl rfl (fun K hK => ?_)
        go_simp
        refine hK _ _ (fun h => by cases h) ?_
        clear hK K
        refine pl_done ?_
        refine NoPanic.normal ?_
        generalize hw7 : w6.setCell ⟨w.heap.size, 1, none⟩ (.slice VB (xs.length + 1) vb) = w7 at HP6 ⊢
        clear hw7 gc gf hb6
        go_wp2
        go_roundw
        case rel => exact ⟨k + 1, by omega, by go_num, _, _, by have := HXL.out; simp; omega, HP6.out⟩
        case measure => simp [intOf]; omega
    · obtain rfl : k = l.length := by omega
      have hlt' : ¬ (l.length : Int) < l.length := by omega
      have c1 := HP1.out.c1
      have HPY := Lib.hid (HP1.out.below ((Below.refl _ _).alloc (Nat.le_refl _) (.cells #[.int .i64 24, .int .i64 0, .int .i64 0, .int .i64 0, .int .u32 0] 50)))
      have HSY := Lib.hid (ins_lit wc ([⟨24, 0, 0, 0, 0⟩] : List InsZ) #[.int .i64 24, .int .i64 0, .int .i64 0, .int .i64 0, .int .u32 0] 1 rfl rfl (by omega))
      go_upto_region 11 with (refine wpList_append_sl _ rfl (.tmp 73) (.tmp 75) 22 rfl w.heap.size 50 _ 5 40 Try.underlying22 info_ins rfl (by omega) (by omega) (.slice VA xs.length vc) xs.length (xs.flatMap insZC) rfl HPY.out.row (some ⟨wc.heap.size, 0, none⟩) 1 1 (([⟨24, 0, 0, 0, 0⟩] : List InsZ).flatMap insZC) rfl HSY.out (insZ_one _) (by omega) (by have := HPY.out.b.size; exact this) ?_; intro v6 w6 hown6 hg6 hat6; obtain ⟨VB, vb, rfl⟩ := own_shape hown6; obtain ⟨gc, gf⟩ := HPY.out.grown hg6; have hb6 := HPY.out.growb hg6; have HP6 := Lib.hid (HPY.out.more [⟨24, 0, 0, 0, 0⟩] rfl rfl (by intro j hj; rw [List.mem_singleton.1 hj]; simp) hown6 hg6 hat6); clear hown6 hg6 hat6)
      generalize hw7 : w6.setCell ⟨w.heap.size, 1, none⟩ (.slice VB (xs.length + 1) vb) = w7 at HP6 ⊢
      clear hw7 gc gf c1 hb6
      have c0 := HP6.out.c0
      have c1 := HP6.out.c1
      have HRN := Lib.hid (HP6.out.runsa (by simp) AA ac ans (Sl.move HAN.out (Mv.of_below HP6.out.b Any)) HAV.out)
      go_wp2_with (first | (go_at_call 4; (with_reducible refine HRN.out.mono ?_); rintro e W9 ⟨rfl, hb9⟩; have HB9 := Lib.hid hb9; clear hb9) | (go_at_call 12; (with_reducible refine (HKN.out _).mono ?_); rintro e W10 ⟨rfl, hb10⟩; have HB10 := Lib.hid hb10; clear hb10))
      go_ret
      exact ⟨rfl, HB9.out.trans (HB10.out.mono HB9.out.size)⟩
end
open Go.ChangeShapes Go.WideShapes Go.ChangeAt Go.RowKit Go.Deep
set_option maxRecDepth 100000

set_option maxRecDepth 100000 in
theorem vmCalls_lifted (os : Os) (started : os.Started) (H : Type) (enc : TypeId × Value → H) :
    ReturnsInHanded {} Try.checked os 7 .any (Rows.vmCallsSpec.pre6 enc Try.prog Try.f7 Rows.vmCallsRow.domain false) (Rows.vmCallsSpec.post enc Try.prog Try.f7 false true false false) := by
  refine returnsInHanded_of_change (C := Try.checked) own08 started (by kernel_rfl) Try.func7
    (ChangeSpec.witness6 (enc := enc) (C := Try.checked) false ⟨#[], #[.slice none 0 0, .slice none 0 0, .slice none 0 0], []⟩ 8 (by kernel_rfl) (by kernel_rfl) (by kernel_rfl) (by kernel_rfl)) ?_
  intro W base args ds gs before hval0 hW hcnd _
  have hval : ∀ (j : Nat) t v, Try.f7.params[j]? = some t → args[j]? = some v → Value.okWide Try.prog W .any base t v := hval0
  have hW' := hW
  obtain ⟨p, q, hA0, hV, rfl, hfz, hnd⟩ := hW
  have hA : DataW.TrodAll enc Try.prog W 0 (fun _ => true) true Try.f7.params.toList args.toList ds p := hA0
  rw [Try.params7] at hA hval
  obtain ⟨v0, vs0, d0, ds0, p0, q0, hargs, rfl, rfl, h0, r0⟩ := trodAll_cons hA
  obtain ⟨v1, vs1, d1, ds1, p1, q1, rfl, rfl, rfl, h1, r1⟩ := trodAll_cons r0
  obtain ⟨v2, vs2, d2, ds2, p2, q2, rfl, rfl, rfl, h2, r2⟩ := trodAll_cons r1
  obtain ⟨rfl, rfl, rfl⟩ := trodAll_nil r2
  obtain rfl : args = #[v0, v1, v2] := by cases args; simp_all
  obtain ⟨rfl, rfl⟩ := trodVars_none hV
  have k0h := h0
  have lt0 : ∀ x ∈ p0, x.block < W.heap.size := by obtain ⟨m, hm⟩ := k0h; exact DataW.trod_lt m _ _ _ hm
  have k1h := h1
  have lt1 : ∀ x ∈ p1, x.block < W.heap.size := by obtain ⟨m, hm⟩ := k1h; exact DataW.trod_lt m _ _ _ hm
  have k2h := h2
  have lt2 : ∀ x ∈ p2, x.block < W.heap.size := by obtain ⟨m, hm⟩ := k2h; exact DataW.trod_lt m _ _ _ hm
  obtain ⟨A0, l0, c0, rfl, s0, m0⟩ := words_in (hval 0 _ v0 rfl rfl) h0
  obtain ⟨A1, l1, c1, rfl, s1, m1⟩ := words_in (hval 1 _ v1 rfl rfl) h1
  obtain ⟨A2, l2, c2, rfl, s2⟩ := bools_in (hval 2 _ v2 rfl rfl) h2
  clear hA0 hval0
  refine (vmcalls_ok W l0 A0 c0 s0 m0 l1 A1 c1 s1 m1 l2 A2 c2 s2).mono fun e W' ⟨he, bel⟩ => ?_
  subst he
  exact ⟨_, rfl, _, _, _, [], _, [], hW', trodAll_mk1 (shut_bool Try.underlying4 _), (trodAll_cons_mk (Below.trod laidOut08 (by kernel_rfl) (of_decide_eq_true (by kernel_rfl)) k0h bel lt0) (trodAll_cons_mk (Below.trod laidOut08 (by kernel_rfl) (of_decide_eq_true (by kernel_rfl)) k1h bel lt1) (trodAll_cons_mk (Below.trod laidOut08 (by kernel_rfl) (of_decide_eq_true (by kernel_rfl)) k2h bel lt2) trodAll_mk0))), rfl, bel.frame _, fun h => by cases h⟩

theorem vmCalls_over : Rows.vmCallsRow.holds Try.pinned (OpenSpec.ofChange Rows.vmCallsSpec) :=
  OpenClaim.holds_of_wide 7 Try.f7 rfl rfl rfl rfl rfl rfl rfl ⟨rfl, rfl, rfl, rfl, rfl⟩ rfl rfl rfl rfl rfl (by kernel_rfl) Try.func7 (by kernel_rfl)
    (of_decide_eq_true (by kernel_rfl)) (by unfold Func.isWrapper; first | (rw [if_pos (by decide +kernel)]; kernel_rfl) | (rw [if_neg (by decide +kernel)]; exact ⟨rfl, rfl⟩))
    (fun os started H enc _ => vmCalls_lifted os started H enc)

theorem vmCalls_holds : Rows.VmCallsSaid := vmCalls_over
end Go.Proofs.Ytpnkbpjhbmacaaa
