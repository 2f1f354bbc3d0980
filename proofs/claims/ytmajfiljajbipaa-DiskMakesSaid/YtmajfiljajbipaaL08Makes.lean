/- DiskMakes: the walk. -/
import Derived.Test.YtmajfiljajbipaaAct08f
import Derived.Test.YtmajfiljajbipaaSame08
set_option linter.unusedVariables false
set_option linter.unusedSimpArgs false
namespace Go.Proofs.Ytmajfiljajbipaa
open Go.RowKit

theorem same_nil (w : World) : Calls Try.prog 32 #[.pointer none, .pointer none] w fun r w' => r = .returned (.bool true) ∧ w = w' := by
  go_enter Try.func32, Try.ntmps32
  go_wp2_with (go_at_call 36; (with_reducible refine (none_nil _).mono ?_); rintro r w' ⟨rfl, rfl⟩)
  go_ret
  exact ⟨rfl, rfl⟩
theorem same_some_nil {R : Nat → Prop} {w : World} {S : Nat → Prop} {p : Nat} {d : Dk} (h : DiskR R w S p d) : Calls Try.prog 32 #[.pointer (some ⟨p, 0, none⟩), .pointer none] w fun r w' => r = .returned (.bool false) ∧ w = w' := by
  obtain ⟨_, fp, _, hd⟩ := h
  have N1 := none_disk hd
  go_enter Try.func32, Try.ntmps32
  go_wp2_with (go_at_call 36; first | ((with_reducible refine N1.mono ?_); rintro r w' ⟨rfl, rfl⟩) | ((with_reducible refine (none_nil _).mono ?_); rintro r w' ⟨rfl, rfl⟩))
  go_ret
  exact ⟨rfl, rfl⟩
set_option maxRecDepth 100000 in
set_option maxHeartbeats 4000000 in
theorem makes_11 (w : World) (n : Nat) (h1 : 1 ≤ n) (h2 : n ≤ 1048576) (A : Option Addr) (c : Nat) (l : List UInt8) (hs : By w Any A l.length c l) (hB : 1 ≤ l.length) (hl : l.length ≤ 500) :
    Calls Try.prog 10 #[.int .i64 (n : Int), .slice A l.length c] w fun e w' => e = .returned (.bool true) ∧ Below w.heap.size w w' := by
  have g1 : ¬ (500 : Int) < l.length := by omega
  go_enter Try.func10, Try.ntmps10
  go_wp2_with fail
  refine (new_S _ n h1 h2).mono ?_
  rintro e w1 ⟨p, S, rfl, hd, hS, hb1⟩
  go_wp2_with fail
  refine (new_ref w1 n h1 h2).mono ?_
  rintro e w2 ⟨hb2, v, rfl, hr2⟩
  obtain ⟨LA, lc, WA, wc, wcs, rfl, _, _, _⟩ := id hr2
  obtain ⟨d, hdd⟩ : ∃ d, d = Dk.of (List.replicate n 0) := ⟨_, rfl⟩
  have hdn : d.now.length = n := by rw [hdd]; simp [Dk.of]
  rw [← hdd] at hd hr2 ⊢
  clear hdd
  have HDN := Lib.hid hdn; clear hdn
  have hS1 := hd.1
  have hd2 := hd.below hb2
  have hz1 := hb1.size
  have hz2 := hb2.size
  obtain ⟨W3, hW3⟩ : ∃ W3, W3 = w2.alloc (.cells #[.slice LA d.lasts.length lc, .slice WA d.waits.length wc, .int .i64 d.steps, .int .i64 d.armed] 48) := ⟨_, rfl⟩
  have hb3 : Below w2.heap.size w2 W3 := by rw [hW3]; exact (Below.refl _ _).alloc (Nat.le_refl _) _
  have hbw3 : Below w.heap.size w W3 := (hb1.trans (hb2.mono hz1)).trans (hb3.mono (by omega))
  have hz3 := hb3.size
  obtain ⟨W4, hW4⟩ : ∃ W4, W4 = W3.alloc (.cells #[] 5) := ⟨_, rfl⟩
  have hb4 : Below W3.heap.size W3 W4 := by rw [hW4]; exact (Below.refl _ _).alloc (Nat.le_refl _) _
  have hbw4 := hbw3.trans (hb4.mono hbw3.size)
  have ho4 : W4.ownsRow W3.heap.size 5 1 (.slice (some ⟨W3.heap.size, 0, none⟩) 0 0) 0 [] := by rw [hW4]; exact own_lit W3 5 1 #[] 0 (by simp [maxLen]) rfl _ (Nat.le_refl _)
  have hz4 : W4.heap.size ≤ W3.heap.size + 1 ∧ W3.heap.size + 1 ≤ W4.heap.size := by rw [hW4]; simp
  have hz3e : W3.heap.size = w2.heap.size + 1 := by rw [hW3]; simp
  rw [hz3e] at ho4
  have HW3 := Lib.hid hW3; clear hW3
  have HW4 := Lib.hid hW4; clear hW4
  have HZ3 := Lib.hid hz3e; clear hz3e
  have hs4 := Sl.move hs (Mv.of_below hbw4 Any)
  go_wp2_with (at_builtin; rw [← HW3.out, ← HW4.out]; refine wpList_append_sl _ rfl (.tmp 34) (.tmp 35) _ rfl (w2.heap.size + 1) 5 _ 1 1 Try.underlying38 info_u8 rfl (by omega) (by omega) (.slice (some ⟨w2.heap.size + 1, 0, none⟩) 0 0) 0 [] rfl ho4 A l.length c (bv l) rfl hs4 (bv_one l) (by omega) (by have := HZ3.out; omega) ?_; intro v5 w5 hown hg hat; rw [Nat.zero_add, List.nil_append] at hown)
  obtain ⟨A', c', he⟩ := own_shape hown
  subst he
  have hb5 : Below W3.heap.size W3 w5 := hb4.grown hg (by omega) (fun k hk => by have := HZ3.out; simp [Value.ownBlock] at hk; omega)
  have hz5 := hb5.size
  have hz35 : w2.heap.size < W3.heap.size := by have := HZ3.out; omega
  have hbw5 := hbw3.trans (hb5.mono hbw3.size)
  have hs5 := Sl.move hs (Mv.of_below hbw5 Any)
  clear hg hat ho4 hs4
  have hd5 := (hd2.below hb3).below hb5
  obtain ⟨mb, cc, he, hmb, hmbl⟩ := own_pos hown (by omega)
  injection he with he1 _ he3
  subst he1; subst he3
  have hby5 : By w5 (fun k => w2.heap.size + 1 ≤ k) (some ⟨mb, 0, none⟩) l.length c' l := Sl.from_own hown
  refine (of_S w5 _ l.length c' l hby5 hB (by omega)).mono ?_
  rintro e w6 ⟨q, So, rfl, ho6, hSo, hb6⟩
  have hz6 := hb6.size
  have hbw6 := hbw5.trans (hb6.mono hbw5.size)
  have hz := own_move hown (fun k _ hlt => hb6.block k hlt)
  have hd6 := hd5.below hb6
  go_wp2_with fail
  refine (of_ref w6 A l.length c l (Sl.move hs (Mv.of_below hbw6 Any)) hB (by omega)).mono ?_
  rintro e w7 ⟨hb7, v7, rfl, hr7⟩
  obtain ⟨d7, hd7e⟩ : ∃ d7, d7 = Dk.of l := ⟨_, rfl⟩
  rw [← hd7e] at hr7 ho6
  have hdw : d7.waits.length = 0 := by rw [hd7e]; rfl
  have hdn7 : d7.now = layAll d7.lasts d7.waits := by rw [hd7e]; rfl
  have HDE := Lib.hid hd7e; clear hd7e
  have HDW := Lib.hid hdw; clear hdw
  have HDN7 := Lib.hid hdn7; clear hdn7
  obtain ⟨LB, lcb, WB, wcb, wcsb, rfl, _, _, _⟩ := id hr7
  have hz7 := hb7.size
  have hbw7 := hbw6.trans (hb7.mono hbw6.size)
  obtain ⟨W8, hW8⟩ : ∃ W8, W8 = w7.alloc (.cells #[.slice LB d7.lasts.length lcb, .slice WB d7.waits.length wcb, .int .i64 d7.steps, .int .i64 d7.armed] 48) := ⟨_, rfl⟩
  have hb8 : Below w7.heap.size w7 W8 := by rw [hW8]; exact (Below.refl _ _).alloc (Nat.le_refl _) _
  have hbw8 := hbw7.trans (hb8.mono hbw7.size)
  have B12 : Box4 W8 w7.heap.size (.slice LB d7.lasts.length lcb) (.slice WB d7.waits.length wcb) (.int .i64 d7.steps) (.int .i64 d7.armed) := by rw [hW8]; exact Box4.new _ _ _ _ _
  have hz8 := hb8.size
  have HW8 := Lib.hid hW8; clear hW8
  have hd8 := (hd6.below hb7).below hb8
  have ho8 := (ho6.below hb7).below hb8
  have hr8 := RefV.below (hr7.mono (T1 := fun k => w6.heap.size ≤ k) (fun k hk ho => ho)) hb8
  have hzz : W8.ownsRow (w2.heap.size + 1) 5 1 (.slice (some ⟨mb, 0, none⟩) l.length c') l.length ((l.map (fun b : UInt8 => (b.toNat : Int))).map (Value.int .u8)) := by
    have e : (l.map (fun b : UInt8 => (b.toNat : Int))).map (Value.int .u8) = bv l := by rw [List.map_map]; rfl
    rw [e]; exact own_move (own_move hz (fun k _ hlt => hb7.block k hlt)) (fun k _ hlt => hb8.block k hlt)
  have hSol := ho6.1
  go_wp2_with fail
  rw [← HW8.out]
  go_loopw [14] (fun i wr => ∃ (k : Nat) (zs : List Int), k ≤ l.length ∧ i = .int .i64 k ∧ wr.ownsRow (w2.heap.size + 1) 5 1 (.slice (some ⟨mb, 0, none⟩) l.length c') l.length (zs.map (Value.int .u8)) ∧ Kp (fun b => b = mb) W8 wr)
    (fun i _ => l.length - (intOf i).toNat)
  case atStart => exact ⟨0, _, Nat.zero_le _, rfl, hzz, Kp.refl _ _⟩
  case round =>
    obtain ⟨k, zs, hk, rfl, hz, hkp⟩ := hrel
    by_cases hlt : k < l.length
    · have hlt' : (k : Int) < l.length := by omega
      have hzl : zs.length = l.length := by have := hz.1; simpa using this
      have hzk : zs[k]? = some (zs[k]'(by omega)) := List.getElem?_eq_getElem (by omega)
      have hc : wr.cell? ⟨mb, k, none⟩ = some (.int .u8 (zs[k]'(by omega))) := by
        rw [hz.cellAt k (by omega), List.getElem?_map, hzk]; rfl
      have hf := hz.frozenAt k
      go_wp2
      have hst := (hz.stored k (.int .u8 ((zs[k]'(by omega) + 1) % 256))).1
      exact ⟨⟨k + 1, zs.set k ((zs[k]'(by omega) + 1) % 256), hlt, by simp, by rw [List.map_set]; exact hst, hkp.setCell (p := ⟨mb, k, none⟩) (.inl rfl) _⟩, by simp [intOf]; omega⟩
    · have hlt' : ¬ (k : Int) < l.length := by omega
      have hzr := hkp.size
      have hbwr : Below w.heap.size w wr := chg_below hbw8 hkp hbw8.size (fun k h => by have h : k = mb := h; omega)
      have hdr := hd8.move hkp (fun k h e => by have := hS1 k h; omega)
      have hor := ho8.move hkp (fun k h e => by have := hSo k h; omega)
      have hrr := RefV.kpA hr8 hkp (fun k _ h e => by omega)
      have B12r := B12.keep hkp (by omega)
      clear hz hzz hown
      go_upto_region 17 with (first
          | (go_at_call 17; refine (num_any _ _).mono ?_; rintro e w' ⟨rfl, rfl⟩)
          | (go_at_call 21; (with_reducible refine (nil_read _ 0 0).mono ?_); rintro e w' ⟨rfl, rfl⟩)
          | (go_at_call 22; (with_reducible refine (nil_crash _ 0 0).mono ?_); rintro e wa ⟨rfl, hba⟩)
          | (go_at_call 15; (with_reducible refine (nil_write _ 0 none 0 0).mono ?_); rintro e wb ⟨rfl, hbb⟩)
          | (go_at_call 16; (with_reducible refine (nil_flush _).mono ?_); rintro e wf ⟨rfl, hbf⟩)
          | (go_at_call 14; (with_reducible refine (nil_arm _ 1).mono ?_); rintro e w' ⟨rfl, rfl⟩)
          | (go_at_call 33; (with_reducible refine (nil_size _).mono ?_); rintro e w' ⟨rfl, rfl⟩)
          | (go_at_call 23; (with_reducible refine (nil_waits _).mono ?_); rintro e w' ⟨rfl, rfl⟩)
          | (go_at_call 18; (with_reducible refine (nil_steps _).mono ?_); rintro e w' ⟨rfl, rfl⟩)
          | (go_at_call 20; (with_reducible refine (nil_lasts _).mono ?_); rintro e w' ⟨rfl, rfl⟩)
          | (go_at_call 34; (with_reducible refine (nil_copy _).mono ?_); rintro e w' ⟨rfl, rfl⟩)
          | (go_at_call 32; (with_reducible refine (same_nil _).mono ?_); rintro e w' ⟨rfl, rfl⟩))
      have hbwa := hbwr.trans (hba.mono hbwr.size)
      have hbwb := hbwa.trans (hbb.mono hbwa.size)
      have hbwf := hbwb.trans (hbf.mono hbwb.size)
      have hdf := ((hdr.below hba).below hbb).below hbf
      obtain ⟨fpd, _, hdk⟩ := hdf.2
      have SZ := size_disk hdk
      rw [HDN.out] at SZ
      have SN := same_some_nil hdf
      have B12f := ((B12r.below hba).below hbb).below hbf
      obtain ⟨b0, b1, b2, b3, bf⟩ := B12f.cells
      have IS := is_true wf q _ d7 (((hor.below hba).below hbb).below hbf) (RefV.below (RefV.below (RefV.below hrr hba) hbb) hbf) (by rw [HDW.out]; omega) HDN7.out
      unfold rv at IS
      go_wp2_with (first | (go_at_call 17; refine (num_any _ _).mono ?_; rintro e w' ⟨rfl, rfl⟩) | (go_at_call 33; (with_reducible refine SZ.mono ?_); rintro e w' ⟨rfl, rfl⟩) | (go_at_call 32; (with_reducible refine SN.mono ?_); rintro e w' ⟨rfl, rfl⟩) | (go_at_call 26; (with_reducible refine IS.mono ?_); rintro e wg ⟨rfl, hbg⟩) | (go_at_call 12; refine (works_ok _).mono ?_; rintro e wh ⟨rfl, hbh⟩))
      go_ret
      have hbwg := hbwf.trans (hbg.mono hbwf.size)
      exact ⟨rfl, hbwg.trans (hbh.mono hbwg.size)⟩
set_option maxRecDepth 100000 in
set_option maxHeartbeats 4000000 in
theorem makes_10 (w : World) (n : Nat) (h1 : 1 ≤ n) (h2 : n ≤ 1048576) (A : Option Addr) (c : Nat) (l : List UInt8) (hs : By w Any A l.length c l) (hB : l.length = 0) (hl : l.length ≤ 500) :
    Calls Try.prog 10 #[.int .i64 (n : Int), .slice A l.length c] w fun e w' => e = .returned (.bool true) ∧ Below w.heap.size w w' := by
  have g1 : ¬ (500 : Int) < l.length := by omega
  have HB := Lib.hid hB; clear hB
  go_enter Try.func10, Try.ntmps10
  go_wp2_with fail
  refine (new_S _ n h1 h2).mono ?_
  rintro e w1 ⟨p, S, rfl, hd, hS, hb1⟩
  go_wp2_with fail
  refine (new_ref w1 n h1 h2).mono ?_
  rintro e w2 ⟨hb2, v, rfl, hr2⟩
  obtain ⟨LA, lc, WA, wc, wcs, rfl, _, _, _⟩ := id hr2
  obtain ⟨d, hdd⟩ : ∃ d, d = Dk.of (List.replicate n 0) := ⟨_, rfl⟩
  have hdn : d.now.length = n := by rw [hdd]; simp [Dk.of]
  rw [← hdd] at hd hr2 ⊢
  clear hdd
  have HDN := Lib.hid hdn; clear hdn
  have hS1 := hd.1
  have hd2 := hd.below hb2
  have hz1 := hb1.size
  have hz2 := hb2.size
  obtain ⟨W3, hW3⟩ : ∃ W3, W3 = w2.alloc (.cells #[.slice LA d.lasts.length lc, .slice WA d.waits.length wc, .int .i64 d.steps, .int .i64 d.armed] 48) := ⟨_, rfl⟩
  have hb3 : Below w2.heap.size w2 W3 := by rw [hW3]; exact (Below.refl _ _).alloc (Nat.le_refl _) _
  have hbw3 : Below w.heap.size w W3 := (hb1.trans (hb2.mono hz1)).trans (hb3.mono (by omega))
  have hz3 := hb3.size
  obtain ⟨W4, hW4⟩ : ∃ W4, W4 = W3.alloc (.cells #[] 5) := ⟨_, rfl⟩
  have hb4 : Below W3.heap.size W3 W4 := by rw [hW4]; exact (Below.refl _ _).alloc (Nat.le_refl _) _
  have hbw4 := hbw3.trans (hb4.mono hbw3.size)
  have ho4 : W4.ownsRow W3.heap.size 5 1 (.slice (some ⟨W3.heap.size, 0, none⟩) 0 0) 0 [] := by rw [hW4]; exact own_lit W3 5 1 #[] 0 (by simp [maxLen]) rfl _ (Nat.le_refl _)
  have hz4 : W4.heap.size ≤ W3.heap.size + 1 ∧ W3.heap.size + 1 ≤ W4.heap.size := by rw [hW4]; simp
  have hz3e : W3.heap.size = w2.heap.size + 1 := by rw [hW3]; simp
  rw [hz3e] at ho4
  have HW3 := Lib.hid hW3; clear hW3
  have HW4 := Lib.hid hW4; clear hW4
  have HZ3 := Lib.hid hz3e; clear hz3e
  have hs4 := Sl.move hs (Mv.of_below hbw4 Any)
  go_wp2_with (at_builtin; rw [← HW3.out, ← HW4.out]; refine wpList_append_sl _ rfl (.tmp 34) (.tmp 35) _ rfl (w2.heap.size + 1) 5 _ 1 1 Try.underlying38 info_u8 rfl (by omega) (by omega) (.slice (some ⟨w2.heap.size + 1, 0, none⟩) 0 0) 0 [] rfl ho4 A l.length c (bv l) rfl hs4 (bv_one l) (by omega) (by have := HZ3.out; omega) ?_; intro v5 w5 hown hg hat; rw [Nat.zero_add, List.nil_append] at hown)
  obtain ⟨A', c', he⟩ := own_shape hown
  subst he
  have hb5 : Below W3.heap.size W3 w5 := hb4.grown hg (by omega) (fun k hk => by have := HZ3.out; simp [Value.ownBlock] at hk; omega)
  have hz5 := hb5.size
  have hz35 : w2.heap.size < W3.heap.size := by have := HZ3.out; omega
  have hbw5 := hbw3.trans (hb5.mono hbw3.size)
  have hs5 := Sl.move hs (Mv.of_below hbw5 Any)
  clear hg hat ho4 hs4
  have hd5 := (hd2.below hb3).below hb5
  refine (of_bad w5 A' l.length c' (Or.inl (by rw [HB.out]; omega))).mono ?_
  rintro e w6 ⟨rfl, rfl⟩
  have hz6 := Nat.le_refl w5.heap.size
  have hbw6 := hbw5
  have hd6 := hd5
  go_wp2_with fail
  refine (of_ref_bad w5 A l.length c (Or.inl (by rw [HB.out]; omega))).mono ?_
  rintro e w7 ⟨hb7, rfl⟩
  unfold rv
  have hz7 := hb7.size
  have hbw7 := hbw6.trans (hb7.mono hbw6.size)
  obtain ⟨W8, hW8⟩ : ∃ W8, W8 = w7.alloc (.cells #[.slice none 0 0, .slice none 0 0, .int .i64 0, .int .i64 0] 48) := ⟨_, rfl⟩
  have hb8 : Below w7.heap.size w7 W8 := by rw [hW8]; exact (Below.refl _ _).alloc (Nat.le_refl _) _
  have hbw8 := hbw7.trans (hb8.mono hbw7.size)
  have B12 : Box4 W8 w7.heap.size (.slice none 0 0) (.slice none 0 0) (.int .i64 0) (.int .i64 0) := by rw [hW8]; exact Box4.new _ _ _ _ _
  have hz8 := hb8.size
  have HW8 := Lib.hid hW8; clear hW8
  have hd8 := (hd6.below hb7).below hb8
  go_wp2_with fail
  rw [← HW8.out]
  go_loopw [14] (fun i wr => i = .int .i64 0 ∧ wr = W8) (fun i _ => 0)
  case atStart => exact ⟨rfl, rfl⟩
  case round =>
    obtain ⟨rfl, rfl⟩ := hrel
    have hlt' : ¬ (0 : Int) < l.length := by rw [HB.out]; omega
    have hbwr := hbw8
    have hdr := hd8
    have B12r := B12
    go_upto_region 17 with (first
        | (go_at_call 17; refine (num_any _ _).mono ?_; rintro e w' ⟨rfl, rfl⟩)
        | (go_at_call 21; (with_reducible refine (nil_read _ 0 0).mono ?_); rintro e w' ⟨rfl, rfl⟩)
        | (go_at_call 22; (with_reducible refine (nil_crash _ 0 0).mono ?_); rintro e wa ⟨rfl, hba⟩)
        | (go_at_call 15; (with_reducible refine (nil_write _ 0 none 0 0).mono ?_); rintro e wb ⟨rfl, hbb⟩)
        | (go_at_call 16; (with_reducible refine (nil_flush _).mono ?_); rintro e wf ⟨rfl, hbf⟩)
        | (go_at_call 14; (with_reducible refine (nil_arm _ 1).mono ?_); rintro e w' ⟨rfl, rfl⟩)
        | (go_at_call 33; (with_reducible refine (nil_size _).mono ?_); rintro e w' ⟨rfl, rfl⟩)
        | (go_at_call 23; (with_reducible refine (nil_waits _).mono ?_); rintro e w' ⟨rfl, rfl⟩)
        | (go_at_call 18; (with_reducible refine (nil_steps _).mono ?_); rintro e w' ⟨rfl, rfl⟩)
        | (go_at_call 20; (with_reducible refine (nil_lasts _).mono ?_); rintro e w' ⟨rfl, rfl⟩)
        | (go_at_call 34; (with_reducible refine (nil_copy _).mono ?_); rintro e w' ⟨rfl, rfl⟩)
        | (go_at_call 32; (with_reducible refine (same_nil _).mono ?_); rintro e w' ⟨rfl, rfl⟩))
    have hbwa := hbwr.trans (hba.mono hbwr.size)
    have hbwb := hbwa.trans (hbb.mono hbwa.size)
    have hbwf := hbwb.trans (hbf.mono hbwb.size)
    have hdf := ((hdr.below hba).below hbb).below hbf
    obtain ⟨fpd, _, hdk⟩ := hdf.2
    have SZ := size_disk hdk
    rw [HDN.out] at SZ
    have SN := same_some_nil hdf
    have B12f := ((B12r.below hba).below hbb).below hbf
    obtain ⟨b0, b1, b2, b3, bf⟩ := B12f.cells
    go_wp2_with (first | (go_at_call 17; refine (num_any _ _).mono ?_; rintro e w' ⟨rfl, rfl⟩) | (go_at_call 33; (with_reducible refine SZ.mono ?_); rintro e w' ⟨rfl, rfl⟩) | (go_at_call 32; (with_reducible refine SN.mono ?_); rintro e w' ⟨rfl, rfl⟩) | (go_at_call 12; refine (works_ok _).mono ?_; rintro e wh ⟨rfl, hbh⟩))
    go_ret
    exact ⟨rfl, hbwf.trans (hbh.mono hbwf.size)⟩
set_option maxRecDepth 100000 in
set_option maxHeartbeats 4000000 in
theorem makes_01 (w : World) (n : Int) (hn : n < 1 ∨ 1048576 < n) (A : Option Addr) (c : Nat) (l : List UInt8) (hs : By w Any A l.length c l) (hB : 1 ≤ l.length) (hl : l.length ≤ 500) :
    Calls Try.prog 10 #[.int .i64 (n : Int), .slice A l.length c] w fun e w' => e = .returned (.bool true) ∧ Below w.heap.size w w' := by
  have g1 : ¬ (500 : Int) < l.length := by omega
  have HN := Lib.hid hn; clear hn
  go_enter Try.func10, Try.ntmps10
  go_wp2_with fail
  refine (new_bad w n HN.out).mono ?_
  rintro e w1 ⟨rfl, rfl⟩
  go_wp2_with fail
  refine (new_ref_bad w n HN.out).mono ?_
  rintro e w2 ⟨hb2, rfl⟩
  unfold rv
  have hb1 := Below.refl w.heap.size w
  have hz1 := hb1.size
  have hz2 := hb2.size
  obtain ⟨W3, hW3⟩ : ∃ W3, W3 = w2.alloc (.cells #[.slice none 0 0, .slice none 0 0, .int .i64 0, .int .i64 0] 48) := ⟨_, rfl⟩
  have hb3 : Below w2.heap.size w2 W3 := by rw [hW3]; exact (Below.refl _ _).alloc (Nat.le_refl _) _
  have hbw3 : Below w.heap.size w W3 := (hb1.trans (hb2.mono hz1)).trans (hb3.mono (by omega))
  have hz3 := hb3.size
  obtain ⟨W4, hW4⟩ : ∃ W4, W4 = W3.alloc (.cells #[] 5) := ⟨_, rfl⟩
  have hb4 : Below W3.heap.size W3 W4 := by rw [hW4]; exact (Below.refl _ _).alloc (Nat.le_refl _) _
  have hbw4 := hbw3.trans (hb4.mono hbw3.size)
  have ho4 : W4.ownsRow W3.heap.size 5 1 (.slice (some ⟨W3.heap.size, 0, none⟩) 0 0) 0 [] := by rw [hW4]; exact own_lit W3 5 1 #[] 0 (by simp [maxLen]) rfl _ (Nat.le_refl _)
  have hz4 : W4.heap.size ≤ W3.heap.size + 1 ∧ W3.heap.size + 1 ≤ W4.heap.size := by rw [hW4]; simp
  have hz3e : W3.heap.size = w2.heap.size + 1 := by rw [hW3]; simp
  rw [hz3e] at ho4
  have HW3 := Lib.hid hW3; clear hW3
  have HW4 := Lib.hid hW4; clear hW4
  have HZ3 := Lib.hid hz3e; clear hz3e
  have hs4 := Sl.move hs (Mv.of_below hbw4 Any)
  go_wp2_with (at_builtin; rw [← HW3.out, ← HW4.out]; refine wpList_append_sl _ rfl (.tmp 34) (.tmp 35) _ rfl (w2.heap.size + 1) 5 _ 1 1 Try.underlying38 info_u8 rfl (by omega) (by omega) (.slice (some ⟨w2.heap.size + 1, 0, none⟩) 0 0) 0 [] rfl ho4 A l.length c (bv l) rfl hs4 (bv_one l) (by omega) (by have := HZ3.out; omega) ?_; intro v5 w5 hown hg hat; rw [Nat.zero_add, List.nil_append] at hown)
  obtain ⟨A', c', he⟩ := own_shape hown
  subst he
  have hb5 : Below W3.heap.size W3 w5 := hb4.grown hg (by omega) (fun k hk => by have := HZ3.out; simp [Value.ownBlock] at hk; omega)
  have hz5 := hb5.size
  have hz35 : w2.heap.size < W3.heap.size := by have := HZ3.out; omega
  have hbw5 := hbw3.trans (hb5.mono hbw3.size)
  have hs5 := Sl.move hs (Mv.of_below hbw5 Any)
  clear hg hat ho4 hs4
  obtain ⟨mb, cc, he, hmb, hmbl⟩ := own_pos hown (by omega)
  injection he with he1 _ he3
  subst he1; subst he3
  have hby5 : By w5 (fun k => w2.heap.size + 1 ≤ k) (some ⟨mb, 0, none⟩) l.length c' l := Sl.from_own hown
  refine (of_S w5 _ l.length c' l hby5 hB (by omega)).mono ?_
  rintro e w6 ⟨q, So, rfl, ho6, hSo, hb6⟩
  have hz6 := hb6.size
  have hbw6 := hbw5.trans (hb6.mono hbw5.size)
  have hz := own_move hown (fun k _ hlt => hb6.block k hlt)
  go_wp2_with fail
  refine (of_ref w6 A l.length c l (Sl.move hs (Mv.of_below hbw6 Any)) hB (by omega)).mono ?_
  rintro e w7 ⟨hb7, v7, rfl, hr7⟩
  obtain ⟨d7, hd7e⟩ : ∃ d7, d7 = Dk.of l := ⟨_, rfl⟩
  rw [← hd7e] at hr7 ho6
  have hdw : d7.waits.length = 0 := by rw [hd7e]; rfl
  have hdn7 : d7.now = layAll d7.lasts d7.waits := by rw [hd7e]; rfl
  have HDE := Lib.hid hd7e; clear hd7e
  have HDW := Lib.hid hdw; clear hdw
  have HDN7 := Lib.hid hdn7; clear hdn7
  obtain ⟨LB, lcb, WB, wcb, wcsb, rfl, _, _, _⟩ := id hr7
  have hz7 := hb7.size
  have hbw7 := hbw6.trans (hb7.mono hbw6.size)
  obtain ⟨W8, hW8⟩ : ∃ W8, W8 = w7.alloc (.cells #[.slice LB d7.lasts.length lcb, .slice WB d7.waits.length wcb, .int .i64 d7.steps, .int .i64 d7.armed] 48) := ⟨_, rfl⟩
  have hb8 : Below w7.heap.size w7 W8 := by rw [hW8]; exact (Below.refl _ _).alloc (Nat.le_refl _) _
  have hbw8 := hbw7.trans (hb8.mono hbw7.size)
  have B12 : Box4 W8 w7.heap.size (.slice LB d7.lasts.length lcb) (.slice WB d7.waits.length wcb) (.int .i64 d7.steps) (.int .i64 d7.armed) := by rw [hW8]; exact Box4.new _ _ _ _ _
  have hz8 := hb8.size
  have HW8 := Lib.hid hW8; clear hW8
  have ho8 := (ho6.below hb7).below hb8
  have hr8 := RefV.below (hr7.mono (T1 := fun k => w6.heap.size ≤ k) (fun k hk ho => ho)) hb8
  have hzz : W8.ownsRow (w2.heap.size + 1) 5 1 (.slice (some ⟨mb, 0, none⟩) l.length c') l.length ((l.map (fun b : UInt8 => (b.toNat : Int))).map (Value.int .u8)) := by
    have e : (l.map (fun b : UInt8 => (b.toNat : Int))).map (Value.int .u8) = bv l := by rw [List.map_map]; rfl
    rw [e]; exact own_move (own_move hz (fun k _ hlt => hb7.block k hlt)) (fun k _ hlt => hb8.block k hlt)
  have hSol := ho6.1
  go_wp2_with fail
  rw [← HW8.out]
  go_loopw [14] (fun i wr => ∃ (k : Nat) (zs : List Int), k ≤ l.length ∧ i = .int .i64 k ∧ wr.ownsRow (w2.heap.size + 1) 5 1 (.slice (some ⟨mb, 0, none⟩) l.length c') l.length (zs.map (Value.int .u8)) ∧ Kp (fun b => b = mb) W8 wr)
    (fun i _ => l.length - (intOf i).toNat)
  case atStart => exact ⟨0, _, Nat.zero_le _, rfl, hzz, Kp.refl _ _⟩
  case round =>
    obtain ⟨k, zs, hk, rfl, hz, hkp⟩ := hrel
    by_cases hlt : k < l.length
    · have hlt' : (k : Int) < l.length := by omega
      have hzl : zs.length = l.length := by have := hz.1; simpa using this
      have hzk : zs[k]? = some (zs[k]'(by omega)) := List.getElem?_eq_getElem (by omega)
      have hc : wr.cell? ⟨mb, k, none⟩ = some (.int .u8 (zs[k]'(by omega))) := by
        rw [hz.cellAt k (by omega), List.getElem?_map, hzk]; rfl
      have hf := hz.frozenAt k
      go_wp2
      have hst := (hz.stored k (.int .u8 ((zs[k]'(by omega) + 1) % 256))).1
      exact ⟨⟨k + 1, zs.set k ((zs[k]'(by omega) + 1) % 256), hlt, by simp, by rw [List.map_set]; exact hst, hkp.setCell (p := ⟨mb, k, none⟩) (.inl rfl) _⟩, by simp [intOf]; omega⟩
    · have hlt' : ¬ (k : Int) < l.length := by omega
      have hzr := hkp.size
      have hbwr : Below w.heap.size w wr := chg_below hbw8 hkp hbw8.size (fun k h => by have h : k = mb := h; omega)
      have hor := ho8.move hkp (fun k h e => by have := hSo k h; omega)
      have hrr := RefV.kpA hr8 hkp (fun k _ h e => by omega)
      have B12r := B12.keep hkp (by omega)
      clear hz hzz hown
      go_upto_region 17 with (first
          | (go_at_call 17; refine (num_any _ _).mono ?_; rintro e w' ⟨rfl, rfl⟩)
          | (go_at_call 21; (with_reducible refine (nil_read _ 0 0).mono ?_); rintro e w' ⟨rfl, rfl⟩)
          | (go_at_call 22; (with_reducible refine (nil_crash _ 0 0).mono ?_); rintro e wa ⟨rfl, hba⟩)
          | (go_at_call 15; (with_reducible refine (nil_write _ 0 none 0 0).mono ?_); rintro e wb ⟨rfl, hbb⟩)
          | (go_at_call 16; (with_reducible refine (nil_flush _).mono ?_); rintro e wf ⟨rfl, hbf⟩)
          | (go_at_call 14; (with_reducible refine (nil_arm _ 1).mono ?_); rintro e w' ⟨rfl, rfl⟩)
          | (go_at_call 33; (with_reducible refine (nil_size _).mono ?_); rintro e w' ⟨rfl, rfl⟩)
          | (go_at_call 23; (with_reducible refine (nil_waits _).mono ?_); rintro e w' ⟨rfl, rfl⟩)
          | (go_at_call 18; (with_reducible refine (nil_steps _).mono ?_); rintro e w' ⟨rfl, rfl⟩)
          | (go_at_call 20; (with_reducible refine (nil_lasts _).mono ?_); rintro e w' ⟨rfl, rfl⟩)
          | (go_at_call 34; (with_reducible refine (nil_copy _).mono ?_); rintro e w' ⟨rfl, rfl⟩)
          | (go_at_call 32; (with_reducible refine (same_nil _).mono ?_); rintro e w' ⟨rfl, rfl⟩))
      have hbwa := hbwr.trans (hba.mono hbwr.size)
      have hbwb := hbwa.trans (hbb.mono hbwa.size)
      have hbwf := hbwb.trans (hbf.mono hbwb.size)
      have B12f := ((B12r.below hba).below hbb).below hbf
      obtain ⟨b0, b1, b2, b3, bf⟩ := B12f.cells
      have IS := is_true wf q _ d7 (((hor.below hba).below hbb).below hbf) (RefV.below (RefV.below (RefV.below hrr hba) hbb) hbf) (by rw [HDW.out]; omega) HDN7.out
      unfold rv at IS
      go_wp2_with (first | (go_at_call 17; refine (num_any _ _).mono ?_; rintro e w' ⟨rfl, rfl⟩) | (go_at_call 26; (with_reducible refine IS.mono ?_); rintro e wg ⟨rfl, hbg⟩) | (go_at_call 12; refine (works_ok _).mono ?_; rintro e wh ⟨rfl, hbh⟩))
      go_ret
      have hbwg := hbwf.trans (hbg.mono hbwf.size)
      exact ⟨rfl, hbwg.trans (hbh.mono hbwg.size)⟩
set_option maxRecDepth 100000 in
set_option maxHeartbeats 4000000 in
theorem makes_00 (w : World) (n : Int) (hn : n < 1 ∨ 1048576 < n) (A : Option Addr) (c : Nat) (l : List UInt8) (hs : By w Any A l.length c l) (hB : l.length = 0) (hl : l.length ≤ 500) :
    Calls Try.prog 10 #[.int .i64 (n : Int), .slice A l.length c] w fun e w' => e = .returned (.bool true) ∧ Below w.heap.size w w' := by
  have g1 : ¬ (500 : Int) < l.length := by omega
  have HN := Lib.hid hn; clear hn
  have HB := Lib.hid hB; clear hB
  go_enter Try.func10, Try.ntmps10
  go_wp2_with fail
  refine (new_bad w n HN.out).mono ?_
  rintro e w1 ⟨rfl, rfl⟩
  go_wp2_with fail
  refine (new_ref_bad w n HN.out).mono ?_
  rintro e w2 ⟨hb2, rfl⟩
  unfold rv
  have hb1 := Below.refl w.heap.size w
  have hz1 := hb1.size
  have hz2 := hb2.size
  obtain ⟨W3, hW3⟩ : ∃ W3, W3 = w2.alloc (.cells #[.slice none 0 0, .slice none 0 0, .int .i64 0, .int .i64 0] 48) := ⟨_, rfl⟩
  have hb3 : Below w2.heap.size w2 W3 := by rw [hW3]; exact (Below.refl _ _).alloc (Nat.le_refl _) _
  have hbw3 : Below w.heap.size w W3 := (hb1.trans (hb2.mono hz1)).trans (hb3.mono (by omega))
  have hz3 := hb3.size
  obtain ⟨W4, hW4⟩ : ∃ W4, W4 = W3.alloc (.cells #[] 5) := ⟨_, rfl⟩
  have hb4 : Below W3.heap.size W3 W4 := by rw [hW4]; exact (Below.refl _ _).alloc (Nat.le_refl _) _
  have hbw4 := hbw3.trans (hb4.mono hbw3.size)
  have ho4 : W4.ownsRow W3.heap.size 5 1 (.slice (some ⟨W3.heap.size, 0, none⟩) 0 0) 0 [] := by rw [hW4]; exact own_lit W3 5 1 #[] 0 (by simp [maxLen]) rfl _ (Nat.le_refl _)
  have hz4 : W4.heap.size ≤ W3.heap.size + 1 ∧ W3.heap.size + 1 ≤ W4.heap.size := by rw [hW4]; simp
  have hz3e : W3.heap.size = w2.heap.size + 1 := by rw [hW3]; simp
  rw [hz3e] at ho4
  have HW3 := Lib.hid hW3; clear hW3
  have HW4 := Lib.hid hW4; clear hW4
  have HZ3 := Lib.hid hz3e; clear hz3e
  have hs4 := Sl.move hs (Mv.of_below hbw4 Any)
  go_wp2_with (at_builtin; rw [← HW3.out, ← HW4.out]; refine wpList_append_sl _ rfl (.tmp 34) (.tmp 35) _ rfl (w2.heap.size + 1) 5 _ 1 1 Try.underlying38 info_u8 rfl (by omega) (by omega) (.slice (some ⟨w2.heap.size + 1, 0, none⟩) 0 0) 0 [] rfl ho4 A l.length c (bv l) rfl hs4 (bv_one l) (by omega) (by have := HZ3.out; omega) ?_; intro v5 w5 hown hg hat; rw [Nat.zero_add, List.nil_append] at hown)
  obtain ⟨A', c', he⟩ := own_shape hown
  subst he
  have hb5 : Below W3.heap.size W3 w5 := hb4.grown hg (by omega) (fun k hk => by have := HZ3.out; simp [Value.ownBlock] at hk; omega)
  have hz5 := hb5.size
  have hz35 : w2.heap.size < W3.heap.size := by have := HZ3.out; omega
  have hbw5 := hbw3.trans (hb5.mono hbw3.size)
  have hs5 := Sl.move hs (Mv.of_below hbw5 Any)
  clear hg hat ho4 hs4
  refine (of_bad w5 A' l.length c' (Or.inl (by rw [HB.out]; omega))).mono ?_
  rintro e w6 ⟨rfl, rfl⟩
  have hz6 := Nat.le_refl w5.heap.size
  have hbw6 := hbw5
  go_wp2_with fail
  refine (of_ref_bad w5 A l.length c (Or.inl (by rw [HB.out]; omega))).mono ?_
  rintro e w7 ⟨hb7, rfl⟩
  unfold rv
  have hz7 := hb7.size
  have hbw7 := hbw6.trans (hb7.mono hbw6.size)
  obtain ⟨W8, hW8⟩ : ∃ W8, W8 = w7.alloc (.cells #[.slice none 0 0, .slice none 0 0, .int .i64 0, .int .i64 0] 48) := ⟨_, rfl⟩
  have hb8 : Below w7.heap.size w7 W8 := by rw [hW8]; exact (Below.refl _ _).alloc (Nat.le_refl _) _
  have hbw8 := hbw7.trans (hb8.mono hbw7.size)
  have B12 : Box4 W8 w7.heap.size (.slice none 0 0) (.slice none 0 0) (.int .i64 0) (.int .i64 0) := by rw [hW8]; exact Box4.new _ _ _ _ _
  have hz8 := hb8.size
  have HW8 := Lib.hid hW8; clear hW8
  go_wp2_with fail
  rw [← HW8.out]
  go_loopw [14] (fun i wr => i = .int .i64 0 ∧ wr = W8) (fun i _ => 0)
  case atStart => exact ⟨rfl, rfl⟩
  case round =>
    obtain ⟨rfl, rfl⟩ := hrel
    have hlt' : ¬ (0 : Int) < l.length := by rw [HB.out]; omega
    have hbwr := hbw8
    have B12r := B12
    go_upto_region 17 with (first
        | (go_at_call 17; refine (num_any _ _).mono ?_; rintro e w' ⟨rfl, rfl⟩)
        | (go_at_call 21; (with_reducible refine (nil_read _ 0 0).mono ?_); rintro e w' ⟨rfl, rfl⟩)
        | (go_at_call 22; (with_reducible refine (nil_crash _ 0 0).mono ?_); rintro e wa ⟨rfl, hba⟩)
        | (go_at_call 15; (with_reducible refine (nil_write _ 0 none 0 0).mono ?_); rintro e wb ⟨rfl, hbb⟩)
        | (go_at_call 16; (with_reducible refine (nil_flush _).mono ?_); rintro e wf ⟨rfl, hbf⟩)
        | (go_at_call 14; (with_reducible refine (nil_arm _ 1).mono ?_); rintro e w' ⟨rfl, rfl⟩)
        | (go_at_call 33; (with_reducible refine (nil_size _).mono ?_); rintro e w' ⟨rfl, rfl⟩)
        | (go_at_call 23; (with_reducible refine (nil_waits _).mono ?_); rintro e w' ⟨rfl, rfl⟩)
        | (go_at_call 18; (with_reducible refine (nil_steps _).mono ?_); rintro e w' ⟨rfl, rfl⟩)
        | (go_at_call 20; (with_reducible refine (nil_lasts _).mono ?_); rintro e w' ⟨rfl, rfl⟩)
        | (go_at_call 34; (with_reducible refine (nil_copy _).mono ?_); rintro e w' ⟨rfl, rfl⟩)
        | (go_at_call 32; (with_reducible refine (same_nil _).mono ?_); rintro e w' ⟨rfl, rfl⟩))
    have hbwa := hbwr.trans (hba.mono hbwr.size)
    have hbwb := hbwa.trans (hbb.mono hbwa.size)
    have hbwf := hbwb.trans (hbf.mono hbwb.size)
    have B12f := ((B12r.below hba).below hbb).below hbf
    obtain ⟨b0, b1, b2, b3, bf⟩ := B12f.cells
    go_wp2_with (first | (go_at_call 17; refine (num_any _ _).mono ?_; rintro e w' ⟨rfl, rfl⟩) | (go_at_call 12; refine (works_ok _).mono ?_; rintro e wh ⟨rfl, hbh⟩))
    go_ret
    exact ⟨rfl, hbwf.trans (hbh.mono hbwf.size)⟩

set_option maxRecDepth 100000 in
theorem makes_walk (w : World) (n : Int) (A : Option Addr) (c : Nat) (l : List UInt8) (hs : By w Any A l.length c l) :
    Calls Try.prog 10 #[.int .i64 n, .slice A l.length c] w fun e w' => e = .returned (.bool true) ∧ Below w.heap.size w w' := by
  by_cases hl : l.length ≤ 500
  · by_cases hn : n < 1 ∨ 1048576 < n
    · by_cases hb : l.length = 0
      · exact makes_00 w n hn A c l hs hb hl
      · exact makes_01 w n hn A c l hs (by omega) hl
    · obtain ⟨m, rfl⟩ : ∃ m : Nat, n = m := ⟨n.toNat, by omega⟩
      by_cases hb : l.length = 0
      · exact makes_10 w m (by omega) (by omega) A c l hs hb hl
      · exact makes_11 w m (by omega) (by omega) A c l hs (by omega) hl
  · have g1 : (500 : Int) < l.length := by omega
    go_enter Try.func10, Try.ntmps10
    go_wp2_with (go_at_call 12; refine (works_ok _).mono ?_; rintro e w1 ⟨rfl, hb⟩)
    go_ret
    exact ⟨rfl, hb⟩
end Go.Proofs.Ytmajfiljajbipaa
