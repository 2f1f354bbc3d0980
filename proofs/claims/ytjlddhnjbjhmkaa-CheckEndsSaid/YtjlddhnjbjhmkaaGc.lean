/- Layer 6: call, and what the cases share. -/
import Derived.Test.YtjlddhnjbjhmkaaGb
set_option linter.unusedVariables false
set_option linter.unusedSimpArgs false
namespace Go.Proofs.Ytjlddhnjbjhmkaa
open Go.RowKit

theorem knF_upd (k : Kn) (n : Nat) (r : Rg) : ∀ j, j < 31 → (if 1 + n * 3 ≤ j ∧ j < 1 + n * 3 + [Value.bool r.s, .int .u32 (r.l : Int), .int .u32 (r.g : Int)].length then [Value.bool r.s, .int .u32 (r.l : Int), .int .u32 (r.g : Int)].getD (j - (1 + n * 3)) undef else knF k j) = knF ⟨k.come, upd k.r n r⟩ j := by
  intro j hj
  by_cases h : 1 + n * 3 ≤ j ∧ j < 1 + n * 3 + [Value.bool r.s, .int .u32 (r.l : Int), .int .u32 (r.g : Int)].length
  · rw [if_pos h]
    have h : 1 + n * 3 ≤ j ∧ j < 1 + n * 3 + 3 := h
    have hc : j = 1 + n * 3 ∨ j = 1 + n * 3 + 1 ∨ j = 1 + n * 3 + 2 := by omega
    have e : (Kn.mk k.come (upd k.r n r)).r n = r := by simp [upd]
    rcases hc with rfl | rfl | rfl
    · rw [knF_s, e, show 1 + n * 3 - (1 + n * 3) = 0 from by omega]; rfl
    · rw [knF_l, e, show 1 + n * 3 + 1 - (1 + n * 3) = 1 from by omega]; rfl
    · rw [knF_g, e, show 1 + n * 3 + 2 - (1 + n * 3) = 2 from by omega]; rfl
  · rw [if_neg h]
    have h : ¬ (1 + n * 3 ≤ j ∧ j < 1 + n * 3 + 3) := h
    unfold knF
    by_cases h0 : j = 0
    · rw [if_pos h0, if_pos h0]
    · have e : (Kn.mk k.come (upd k.r n r)).r ((j - 1) / 3) = k.r ((j - 1) / 3) := by
        show upd k.r n _ ((j - 1) / 3) = _
        exact if_neg (by omega)
      rw [if_neg h0, if_neg h0, e]
def clrK (k : Kn) (m : Nat) : Kn := ⟨k.come, fun j => if 1 ≤ j ∧ j ≤ m then rg0 else (k.put 0 allS).r j⟩
theorem clrK_succ (k : Kn) (m : Nat) : (⟨(clrK k m).come, upd (clrK k m).r (m + 1) rg0⟩ : Kn) = clrK k (m + 1) := by
  unfold clrK
  congr 1
  funext j
  unfold upd
  by_cases e : j = m + 1
  · subst e; rw [if_pos rfl, if_pos (by omega)]
  · rw [if_neg e]
    show (if 1 ≤ j ∧ j ≤ m then rg0 else (k.put 0 allS).r j) = _
    by_cases e2 : 1 ≤ j ∧ j ≤ m
    · rw [if_pos e2, if_pos (by omega)]
    · rw [if_neg e2, if_neg (by omega)]
theorem clrK_five (k : Kn) : clrK k 5 = callK k := by
  unfold clrK callK
  congr 1
  funext j
  by_cases e : j = 0
  · subst e; rfl
  · rw [if_neg e]
    by_cases e2 : j ≤ 5
    · rw [if_pos e2, if_pos (by omega)]
    · rw [if_neg e2, if_neg (by omega)]
      show upd k.r 0 _ j = _
      exact if_neg e
theorem clrK_zero (k : Kn) : k.put 0 ⟨0, 4294967295⟩ = clrK k 0 := by
  unfold clrK Kn.put
  congr 1
  funext j
  rw [if_neg (by omega)]
  rfl
def zkF (j : Nat) : Value := (#[.bool false, .bool false, .int .u32 0, .int .u32 0, .bool false, .int .u32 0, .int .u32 0, .bool false, .int .u32 0, .int .u32 0, .bool false, .int .u32 0, .int .u32 0, .bool false, .int .u32 0, .int .u32 0, .bool false, .int .u32 0, .int .u32 0, .bool false, .int .u32 0, .int .u32 0, .bool false, .int .u32 0, .int .u32 0, .bool false, .int .u32 0, .int .u32 0, .bool false, .int .u32 0, .int .u32 0] : Array Value).getD j undef
theorem zero_kn_blk (w : World) : Blk (w.alloc (.cells #[.bool false, .bool false, .int .u32 0, .int .u32 0, .bool false, .int .u32 0, .int .u32 0, .bool false, .int .u32 0, .int .u32 0, .bool false, .int .u32 0, .int .u32 0, .bool false, .int .u32 0, .int .u32 0, .bool false, .int .u32 0, .int .u32 0, .bool false, .int .u32 0, .int .u32 0, .bool false, .int .u32 0, .int .u32 0, .bool false, .int .u32 0, .int .u32 0, .bool false, .int .u32 0, .int .u32 0] 42)) w.heap.size 42 31 zkF := by
  have := Blk.lit w 42 #[.bool false, .bool false, .int .u32 0, .int .u32 0, .bool false, .int .u32 0, .int .u32 0, .bool false, .int .u32 0, .int .u32 0, .bool false, .int .u32 0, .int .u32 0, .bool false, .int .u32 0, .int .u32 0, .bool false, .int .u32 0, .int .u32 0, .bool false, .int .u32 0, .int .u32 0, .bool false, .int .u32 0, .int .u32 0, .bool false, .int .u32 0, .int .u32 0, .bool false, .int .u32 0, .int .u32 0]
  rwa [size_zk] at this

/-- The worlds of a call: the run's known in a block of its own. -/
structure Cl (w : World) (g : Nat) (k : Kn) (W : World) : Prop where
  b : Below w.heap.size w W
  gz : w.heap.size < g
  r : ∃ G, Blk W w.heap.size 42 31 G
  s : Blk W g 42 31 (knF k)
theorem Cl.next {w : World} {g : Nat} {k : Kn} {W : World} (h : Cl w g k W) (m : Nat) (r : Rg) : Cl w g ⟨k.come, upd k.r m r⟩ (W.setCells g (1 + m * 3) [.bool r.s, .int .u32 (r.l : Int), .int .u32 (r.g : Int)]) := by
  have hk : Kp (fun b => b = g) W (W.setCells g (1 + m * 3) [.bool r.s, .int .u32 (r.l : Int), .int .u32 (r.g : Int)]) := Kp.setCells (M := fun b => b = g) (.inl rfl) _ _ _ (Kp.refl _ _)
  have hg := h.gz
  refine ⟨(Kp.setCells (w := w) (b := g) (.inr (by omega)) _ _ _ (Kp.of_below h.b No)).below, h.gz, ?_, (Blk.setCells [.bool r.s, .int .u32 (r.l : Int), .int .u32 (r.g : Int)] (1 + m * 3) W (knF k) h.s).congr (knF_upd k m r)⟩
  obtain ⟨G, hG⟩ := h.r
  exact ⟨G, hG.keep hk (by omega)⟩

set_option maxRecDepth 100000 in
set_option maxHeartbeats 2000000 in
theorem ccall_ok {w : World} {x : Nat} {i : Ins8} {ctx : Nat} {k : Kn} (hI : InB w x i ctx k) :
    Calls Try.prog 43 #[.pointer (some ⟨x, 0, none⟩)] w fun e w' => e = .returned (.agg (knL (callK k)).toArray) ∧ Below w.heap.size w w' := by
  obtain ⟨W1, hW1⟩ : ∃ W1, W1 = (w.alloc (.cells #[.bool false, .bool false, .int .u32 0, .int .u32 0, .bool false, .int .u32 0, .int .u32 0, .bool false, .int .u32 0, .int .u32 0, .bool false, .int .u32 0, .int .u32 0, .bool false, .int .u32 0, .int .u32 0, .bool false, .int .u32 0, .int .u32 0, .bool false, .int .u32 0, .int .u32 0, .bool false, .int .u32 0, .int .u32 0, .bool false, .int .u32 0, .int .u32 0, .bool false, .int .u32 0, .int .u32 0] 42)) := ⟨_, rfl⟩
  have hb1 : Below w.heap.size w W1 := by rw [hW1]; exact ((Below.refl _ _).alloc (Nat.le_refl _) _)
  have hr1 : Blk W1 w.heap.size 42 31 zkF := by rw [hW1]; exact zero_kn_blk w
  have hz1 : w.heap.size < W1.heap.size := by rw [hW1]; simp
  have HKN := Lib.hid (hI.below hb1).known
  have hx := hI.lt
  have HB1 := Lib.hid hb1; have HR1 := Lib.hid hr1; have HZ1 := Lib.hid hz1; clear hb1 hr1 hz1
  have HW1 := Lib.hid hW1; clear hW1 hI
  go_enter Try.func43, Try.ntmps43
  go_upto_region 1 with fail
  rw [← HW1.out]
  refine wp_region_noPanic ?_
  refine planM (.rd 0 (.rd 1 (.rd 2 (.rd 3 (.many [(4, some 9), (5, some 10), (6, some 3)] (.eff 7 .done)))))) [0, 1, 2, 3, 4, 5, 6] (fun W => Below W1.heap.size W1 W) (by kernel_rfl) (by kernel_rfl) (fun _ _ _ _ _ h => h) ((Below.refl _ _).drew) ?_
  repeat (refine pm_pure rfl (fun K hK => ?_); go_simp; refine hK _ ?_; clear hK K)
  refine pm_rd (.agg (knL k).toArray) rfl rfl (fun W hS => exec_load_mid 42 (.tmp 7) rfl (x) (6) rfl (knL k) _ (rg_below HKN.out hS) Try.underlying42 rfl (by rw [knL_length]; exact info_kn)) (fun K hK => ?_)
  refine hK _ ?_
  clear hK K
  refine pm_many (fun j v W => if j = 4 then v = .agg #[.int .u64 0, .int .u64 4294967295] else if j = 5 then v = .agg (knL (clrK k 0)).toArray else ∃ g, v = .pointer (some ⟨g, 0, none⟩) ∧ W1.heap.size ≤ g ∧ Blk W g 42 31 zkF) ?_ ?_ ?_
  · intro j v w1 w2 h hb
    by_cases h4 : j = 4
    · simp only [if_pos h4] at h ⊢; exact h
    · simp only [if_neg h4] at h ⊢
      by_cases h5 : j = 5
      · simp only [if_pos h5] at h ⊢; exact h
      · simp only [if_neg h5] at h ⊢
        obtain ⟨g, h1, h2, h3⟩ := h
        exact ⟨g, h1, h2, h3.below hb⟩
  · intro c hc l v w1 hS hb hl hn hV
    simp only [List.mem_cons, List.not_mem_nil, or_false] at hc
    rcases hc with rfl | rfl | rfl
    · refine pm_one rfl rfl (fun K' hK => ?_)
      refine wp_calls_ret (f := 56) (args := #[]) (by simp [execOp, go_sem]) (call_all w1) (fun w3 hb3 => ?_)
      exact hK _ _ ⟨_, rfl, Below.trans hS (hb3.mono hS.size), hb3, rfl⟩
    · have e4 : l 4 = true := hn (4, some 9) (by simp) (by kernel_rfl)
      have v4 : v 4 = .agg #[.int .u64 0, .int .u64 4294967295] := hV (4, some 9) (by simp) e4
      have E8 : ∀ a : Act, (putM v l [(4, some 9), (5, some 10), (6, some 3)] a).tmps[8]?.getD undef = a.tmps[8]?.getD undef := fun a => by simpa [Array.getD_eq_getD_getElem?] using putM_eval_other (v := v) (l := l) 8 [(4, some 9), (5, some 10), (6, some 3)] a (by simp)
      have E9 : ∀ a : Act, 9 < a.tmps.size → (putM v l [(4, some 9), (5, some 10), (6, some 3)] a).tmps[9]?.getD undef = v 4 := fun a ha => by simpa [Array.getD_eq_getD_getElem?] using putM_eval_at (v := v) (l := l) 9 [(4, some 9), (5, some 10), (6, some 3)] a 4 (by kernel_rfl) (by simp) e4 ha
      refine pm_one rfl rfl (fun K' hK => ?_)
      refine wp_calls_ret (f := 40) (args := #[.agg (knL k).toArray, .int .i64 ((0 : Nat) : Int), .agg #[.int .u64 ((0 : Nat) : Int), .int .u64 ((4294967295 : Nat) : Int)]]) ?_ (cput_ok w1 k 0 0 4294967295 (by omega) (by omega) (by omega)) (fun w3 hb3 => ?_)
      · simp [execOp, go_sem]
        exact ⟨(E8 _).trans rfl, (E9 _ (by simp)).trans v4⟩
      rw [clrK_zero]
      exact hK _ _ ⟨_, rfl, Below.trans hS (hb3.mono hS.size), hb3, rfl⟩
    · refine pm_one rfl rfl (fun K' hK => ?_)
      refine wp_value (w' := w1.alloc (.cells #[.bool false, .bool false, .int .u32 0, .int .u32 0, .bool false, .int .u32 0, .int .u32 0, .bool false, .int .u32 0, .int .u32 0, .bool false, .int .u32 0, .int .u32 0, .bool false, .int .u32 0, .int .u32 0, .bool false, .int .u32 0, .int .u32 0, .bool false, .int .u32 0, .int .u32 0, .bool false, .int .u32 0, .int .u32 0, .bool false, .int .u32 0, .int .u32 0, .bool false, .int .u32 0, .int .u32 0] 42)) (.pointer (some ⟨w1.heap.size, 0, none⟩)) (by kernel_rfl) ?_
      have hb3 : Below w1.heap.size w1 (w1.alloc (.cells #[.bool false, .bool false, .int .u32 0, .int .u32 0, .bool false, .int .u32 0, .int .u32 0, .bool false, .int .u32 0, .int .u32 0, .bool false, .int .u32 0, .int .u32 0, .bool false, .int .u32 0, .int .u32 0, .bool false, .int .u32 0, .int .u32 0, .bool false, .int .u32 0, .int .u32 0, .bool false, .int .u32 0, .int .u32 0, .bool false, .int .u32 0, .int .u32 0, .bool false, .int .u32 0, .int .u32 0] 42)) := (Below.refl _ _).alloc (Nat.le_refl _) _
      exact hK _ _ ⟨_, rfl, Below.trans hS (hb3.mono hS.size), hb3, w1.heap.size, rfl, hS.size, zero_kn_blk w1⟩
  · intro v w2 hS hb hV
    have v4 : v 4 = .agg #[.int .u64 0, .int .u64 4294967295] := hV (4, some 9) (by simp)
    have v5 : v 5 = .agg (knL (clrK k 0)).toArray := hV (5, some 10) (by simp)
    obtain ⟨g, v6, hg, hG⟩ : ∃ g, v 6 = .pointer (some ⟨g, 0, none⟩) ∧ W1.heap.size ≤ g ∧ Blk w2 g 42 31 zkF := hV (6, some 3) (by simp)
    simp only [putM, if_true, v4, v5, v6]
    clear hV v4 v5 v6
    have hbw : Below w.heap.size w w2 := HB1.out.trans (Below.mono hS (Nat.le_of_lt HZ1.out))
    refine pm_eff rfl rfl (fun K hK => ?_)
    refine wp_store_mid 42 (.tmp 3) (.tmp 10) rfl g 0 (knL (clrK k 0)).toArray rfl rfl (by rw [knA_size]; exact there_blk hG) (by rw [knA_size]; exact info_kn) (knL_one _) ?_
    have hgz : w.heap.size < g := Nat.lt_of_lt_of_le HZ1.out hg
    have HCL : Hid (Cl w g (clrK k 0) (w2.setCells g 0 (knL (clrK k 0)))) := Lib.hid ⟨(Kp.setCells (w := w) (b := g) (.inr (Nat.le_of_lt hgz)) _ _ _ (Kp.of_below hbw No)).below, hgz, ⟨_, ((HR1.out.keep (Kp.of_below (show Below W1.heap.size W1 w2 from hS) No) (fun e => e)).keep (M := fun b => b = g) (Kp.setCells (M := fun b => b = g) (.inl rfl) _ _ _ (Kp.refl _ _)) (by omega))⟩, hG.fill (knF (clrK k 0))⟩
    generalize hW5 : w2.setCells g 0 (knL (clrK k 0)) = W5 at HCL ⊢
    have hW6 : w2.setCells g 0 (knL (clrK k 0)).toArray.toList = W5 := hW5
    clear hS hb hG hbw
    refine hK _ _ (fun h => by cases h) ?_
    clear hK K
    refine pm_done ?_
    refine NoPanic.normal ?_
    clear hW5 hW6
    go_wp2
    go_loopw [4] (fun i wr => ∃ m : Nat, m ≤ 5 ∧ i = .int .i64 ((m + 1 : Nat) : Int) ∧ Cl w g (clrK k m) wr) (fun i _ => 6 - (intOf i).toNat)
    case atStart => exact ⟨0, by omega, rfl, HCL.out⟩
    case round =>
      obtain ⟨m, hm, rfl, hc⟩ := hrel
      by_cases hlt : m < 5
      · have hlt' : ((m + 1 : Nat) : Int) ≤ 5 := by omega
        have hlt2 : ((m + 1 : Nat) : Int) < 10 := by omega
        have hN := hc.next (m + 1) rg0
        rw [clrK_succ] at hN
        have HN := Lib.hid hN; clear hN
        have HC := Lib.hid hc; clear hc
        go_wp2_with (refine wpList_store_mid rfl 37 (.tmp 18) (.tmp 16) rfl g (1 + (m + 1) * 3) #[.bool false, .int .u32 0, .int .u32 0] rfl rfl (there_mid HC.out.s (1 + (m + 1) * 3) 3 (by omega)) (by kernel_rfl) (by simp [Value.oneCell']) ?_)
        go_roundw
        case rel => exact ⟨m + 1, by omega, by go_num, HN.out⟩
        case measure => simp [intOf]; omega
      · obtain rfl : m = 5 := by omega
        rw [clrK_five] at hc
        obtain ⟨R, hR⟩ := hc.r
        have HC := Lib.hid hc; have HRR := Lib.hid hR; clear hc hR
        go_upto_region 6 with fail
        refine wp_region_list ?_
        refine wpList_load_mid rfl 42 (.tmp 3) rfl g 0 rfl (knL (callK k)) _ HC.out.s.range Try.underlying42 rfl (by rw [knL_length]; exact info_kn) ?_
        obtain ⟨W4, HW4, HR4, HB4, HK4⟩ := fin_store HC.out.b HRR.out (Nat.le_refl _) (knL (callK k)) (knL_length _)
        refine wpList_store_mid rfl 42 (.tmp 2) (.tmp 19) rfl w.heap.size 0 (knL (callK k)).toArray rfl rfl (by rw [knA_size]; exact there_blk HRR.out) (by rw [knA_size]; exact info_kn) (knL_one _) ?_
        rw [← HW4.out]
        go_wp2
        exact bodyPost_ret (v := .agg (knL (callK k)).toArray) (results_cell1_range Try.results43 _ _ w.heap.size 0 _ _ rfl HR4.out Try.underlying42 rfl (by rw [knL_length]; exact info_kn)) rfl ⟨rfl, HB4.out⟩
end Go.Proofs.Ytjlddhnjbjhmkaa
namespace Go.Proofs.Ytjlddhnjbjhmkaa
open Go.RowKit

theorem mkop_ok (w : World) (op : Nat) (h1 : 1 ≤ op) (h2 : op ≤ 15) (d s : Sp) (hd : d.ok) (hs : s.ok) (h0 : op = 14 ∨ op = 15 → 0 < s.l) (h5 : op = 12 ∨ op = 13 → s.l ≤ 31) :
    Calls Try.prog (fnC op) #[.agg #[.int .u64 (d.l : Int), .int .u64 (d.g : Int)], .agg #[.int .u64 (s.l : Int), .int .u64 (s.g : Int)]] w fun e w' => e = .returned (.agg #[.int .u64 ((mkS op d s).l : Int), .int .u64 ((mkS op d s).g : Int)]) ∧ Below w.heap.size w w' := by
  obtain ⟨dl, dg⟩ := d
  obtain ⟨sl, sg⟩ := s
  obtain ⟨d1, d2⟩ := hd
  obtain ⟨s1, s2⟩ := hs
  have hc : op = 1 ∨ op = 2 ∨ op = 3 ∨ op = 4 ∨ op = 5 ∨ op = 6 ∨ op = 7 ∨ op = 8 ∨ op = 9 ∨ op = 10 ∨ op = 11 ∨ op = 12 ∨ op = 13 ∨ op = 14 ∨ op = 15 := by omega
  rcases hc with rfl | rfl | rfl | rfl | rfl | rfl | rfl | rfl | rfl | rfl | rfl | rfl | rfl | rfl | rfl
  · exact mk4_ok w dl dg sl sg d1 d2 s1 s2
  · exact mk4_ok w dl dg sl sg d1 d2 s1 s2
  · exact mk1_ok w dl dg sl sg d1 d2 s1 s2
  · exact mk1_ok w dl dg sl sg d1 d2 s1 s2
  · exact mk5_ok w dl dg sl sg d1 d2 s1 s2
  · exact mk2_ok w dl dg sl sg d1 d2 s1 s2
  · exact mk2_ok w dl dg sl sg d1 d2 s1 s2
  · exact mk3_ok w dl dg sl sg d1 d2 s1 s2
  · exact mk3_ok w dl dg sl sg d1 d2 s1 s2
  · exact mk6_ok w dl dg sl sg d1 d2 s1 s2
  · exact mk7_ok w dl dg sl sg d1 d2 s1 s2
  · exact mk8_ok w dl dg sl sg d1 d2 s1 s2 (h5 (.inl rfl))
  · exact mk9_ok w dl dg sl sg d1 d2 s1 s2 (h5 (.inr rfl))
  · exact mk10_ok w dl dg sl sg d1 d2 s1 s2 (h0 (.inl rfl))
  · exact mk11_ok w dl dg sl sg d1 d2 s1 s2 (h0 (.inr rfl))
theorem enter_fnC (op : Nat) (h1 : 1 ≤ op) (h2 : op ≤ 15) (args : Array Value) (w : World) : (callFunc (fnC op) args).run Try.prog w = .ok (.enter (fnC op) args) w := by
  have hc : op = 1 ∨ op = 2 ∨ op = 3 ∨ op = 4 ∨ op = 5 ∨ op = 6 ∨ op = 7 ∨ op = 8 ∨ op = 9 ∨ op = 10 ∨ op = 11 ∨ op = 12 ∨ op = 13 ∨ op = 14 ∨ op = 15 := by omega
  rcases hc with rfl | rfl | rfl | rfl | rfl | rfl | rfl | rfl | rfl | rfl | rfl | rfl | rfl | rfl | rfl
  · rw [show fnC 1 = 63 from by simp [fnC]]; go_simp
  · rw [show fnC 2 = 63 from by simp [fnC]]; go_simp
  · rw [show fnC 3 = 59 from by simp [fnC]]; go_simp
  · rw [show fnC 4 = 59 from by simp [fnC]]; go_simp
  · rw [show fnC 5 = 64 from by simp [fnC]]; go_simp
  · rw [show fnC 6 = 61 from by simp [fnC]]; go_simp
  · rw [show fnC 7 = 61 from by simp [fnC]]; go_simp
  · rw [show fnC 8 = 62 from by simp [fnC]]; go_simp
  · rw [show fnC 9 = 62 from by simp [fnC]]; go_simp
  · rw [show fnC 10 = 65 from by simp [fnC]]; go_simp
  · rw [show fnC 11 = 67 from by simp [fnC]]; go_simp
  · rw [show fnC 12 = 68 from by simp [fnC]]; go_simp
  · rw [show fnC 13 = 69 from by simp [fnC]]; go_simp
  · rw [show fnC 14 = 70 from by simp [fnC]]; go_simp
  · rw [show fnC 15 = 71 from by simp [fnC]]; go_simp
def spF (l g : Nat) (j : Nat) : Value := if j = 0 then .int .u64 (l : Int) else .int .u64 (g : Int)
theorem spB (w : World) (l g : Nat) : Blk (w.alloc (.cells #[.int .u64 (l : Int), .int .u64 (g : Int)] 93)) w.heap.size 93 2 (spF l g) := by
  refine Blk.new w 93 _ 2 rfl _ (fun j hj => ?_)
  have : j = 0 ∨ j = 1 := by omega
  rcases this with rfl | rfl <;> rfl
theorem spB_range {w : World} {b l g : Nat} (h : Blk w b 93 2 (spF l g)) : w.rangeAt b 0 [.int .u64 (l : Int), .int .u64 (g : Int)] := h.range
/-- The blocks of a sum: the result's, the first span's. -/
structure Sm (w : World) (l g : Nat) (W : World) : Prop where
  b : Below w.heap.size w W
  z : w.heap.size + 2 ≤ W.heap.size
  r : ∃ G, Blk W w.heap.size 42 31 G
  d : Blk W (w.heap.size + 1) 93 2 (spF l g)
theorem Sm.more {w : World} {l g : Nat} {W W1 : World} (h : Sm w l g W) (hb : Below W.heap.size W W1) : Sm w l g W1 :=
  ⟨h.b.trans (hb.mono (by have := h.z; omega)), by have := hb.size; have := h.z; omega, by obtain ⟨G, hG⟩ := h.r; exact ⟨G, hG.below hb⟩, h.d.below hb⟩
theorem Sm.start (w : World) : Sm w 0 0 ((w.alloc (.cells #[.bool false, .bool false, .int .u32 0, .int .u32 0, .bool false, .int .u32 0, .int .u32 0, .bool false, .int .u32 0, .int .u32 0, .bool false, .int .u32 0, .int .u32 0, .bool false, .int .u32 0, .int .u32 0, .bool false, .int .u32 0, .int .u32 0, .bool false, .int .u32 0, .int .u32 0, .bool false, .int .u32 0, .int .u32 0, .bool false, .int .u32 0, .int .u32 0, .bool false, .int .u32 0, .int .u32 0] 42)).alloc (.cells #[.int .u64 0, .int .u64 0] 93)) := by
  refine ⟨((Below.refl _ _).alloc (Nat.le_refl _) _).alloc (by simp <;> omega) _, by simp, ⟨zkF, (zero_kn_blk w).below ((Below.refl _ _).alloc (Nat.le_refl _) _)⟩, ?_⟩
  have := spB (w.alloc (.cells #[.bool false, .bool false, .int .u32 0, .int .u32 0, .bool false, .int .u32 0, .int .u32 0, .bool false, .int .u32 0, .int .u32 0, .bool false, .int .u32 0, .int .u32 0, .bool false, .int .u32 0, .int .u32 0, .bool false, .int .u32 0, .int .u32 0, .bool false, .int .u32 0, .int .u32 0, .bool false, .int .u32 0, .int .u32 0, .bool false, .int .u32 0, .int .u32 0, .bool false, .int .u32 0, .int .u32 0] 42)) 0 0
  simpa using this
theorem Sm.setd {w : World} {l g : Nat} {W : World} (h : Sm w l g W) (l2 g2 : Nat) : Sm w l2 g2 (W.setCells (w.heap.size + 1) 0 [.int .u64 (l2 : Int), .int .u64 (g2 : Int)]) := by
  have hk : Kp (fun b => b = w.heap.size + 1) W (W.setCells (w.heap.size + 1) 0 [.int .u64 (l2 : Int), .int .u64 (g2 : Int)]) := Kp.setCells (M := fun b => b = w.heap.size + 1) (.inl rfl) _ _ _ (Kp.refl _ _)
  refine ⟨(Kp.setCells (w := w) (b := w.heap.size + 1) (.inr (by omega)) _ _ _ (Kp.of_below h.b No)).below, by have := hk.size; have := h.z; omega, ?_, h.d.fill (spF l2 g2)⟩
  obtain ⟨G, hG⟩ := h.r
  exact ⟨G, hG.keep hk (by omega)⟩
theorem op_nats (i : Ins8) (n : Nat) (b : Bool) (h : (i.op = n) ↔ b = true) : ((i.op : Int) == (n : Int)) = b := by
  rcases b with _ | _
  · simp at h ⊢; omega
  · simp at h ⊢; omega

end Go.Proofs.Ytjlddhnjbjhmkaa
namespace Go.Proofs.Ytjlddhnjbjhmkaa
open Go.RowKit

theorem results_cell2_range {P : Program} {fn : Func} {p q : Tmp} {ty : TypeId} (h : fn.results = #[.cell p ty, .cell q ty]) (tmps : Array Value) (w : World) (g g2 : Nat) (cs ds : List Value) (d : TypeDesc)
    (hp : tmps.getD p undef = .pointer (some ⟨g, 0, none⟩)) (hq : tmps.getD q undef = .pointer (some ⟨g2, 0, none⟩)) (hc : w.rangeAt g 0 cs) (hc2 : w.rangeAt g2 0 ds) (hu : P.underlying ty = some d) (hd : d.isRow = true) (hi : (P.info? ty).map (·.size) = some cs.length) (hi2 : (P.info? ty).map (·.size) = some ds.length) :
    (results fn tmps).run P w = .ok (.tuple #[.agg cs.toArray, .agg ds.toArray]) w := by
  have hp' : tmps[p]?.getD undef = .pointer (some ⟨g, 0, none⟩) := by simpa using hp
  have hq' : tmps[q]?.getD undef = .pointer (some ⟨g2, 0, none⟩) := by simpa using hq
  simp [results, h, hp', hq', asAddr, run_loadVar_mid w g 0 ty cs d hc hu hd hi, run_loadVar_mid w g2 0 ty ds d hc2 hu hd hi2]
theorem knL_tl (k : Kn) : (knL k).toArray.toList = rowF 31 (knF k) := rfl
theorem sp_eql (W : World) (a b c d : Int) : (binOp .eql 93 (.agg #[.int .u64 a, .int .u64 b]) (.agg #[.int .u64 c, .int .u64 d])).run Try.prog W = .ok (.bool (a == c && b == d)) W := by
  by_cases h : a = c
  · by_cases h2 : b = d
    · subst h; subst h2; simp [go_sem]
    · have h3 : (b == d) = false := by simpa using h2
      subst h; simp [go_sem, h3]
  · have h3 : (a == c) = false := by simpa using h
    simp [go_sem, h3]
theorem rg_kept {M : Nat → Prop} {W W1 : World} {g o : Nat} {cs : List Value} (h : W.rangeAt g o cs) (hk : Kp M W W1) (hg : ¬ M g) : W1.rangeAt g o cs := fun j v hv => hk.cell (h j v hv) hg
/-- Two blocks for results, from block r on: what the second holds. -/
structure Tw (w : World) (r : Nat) (F G : Nat → Value) (W : World) : Prop where
  b : Below w.heap.size w W
  lo : w.heap.size ≤ r
  z : r + 2 ≤ W.heap.size
  n : Blk W r 42 31 F
  j : Blk W (r + 1) 42 31 G
def EqPost (w : World) (kz : Kn) (dl dg imm : Nat) (s4 s5 : Value) (wx : World) : Prop := ∃ b4, s4 = .pointer (some ⟨b4, 0, none⟩) ∧ s5 = .int .u64 (imm : Int) ∧ Tw w w.heap.size (knF kz) (knF kz) wx ∧ Blk wx b4 93 2 (spF dl dg) ∧ w.heap.size + 2 ≤ b4
theorem Tw.more {w : World} {r : Nat} {F G : Nat → Value} {W W1 : World} (h : Tw w r F G W) (hb : Below W.heap.size W W1) : Tw w r F G W1 :=
  ⟨h.b.trans (hb.mono (by have := h.z; have := h.lo; omega)), h.lo, by have := hb.size; have := h.z; omega, h.n.below hb, h.j.below hb⟩
theorem Tw.setn {w : World} {r : Nat} {F G : Nat → Value} {W : World} (h : Tw w r F G W) (F2 : Nat → Value) : Tw w r F2 G (W.setCells r 0 (rowF 31 F2)) := by
  have hk : Kp (fun b => b = r) W (W.setCells r 0 (rowF 31 F2)) := Kp.setCells (M := fun b => b = r) (.inl rfl) _ _ _ (Kp.refl _ _)
  exact ⟨(Kp.setCells (w := w) (b := r) (.inr h.lo) _ _ _ (Kp.of_below h.b No)).below, h.lo, by have := hk.size; have := h.z; omega, h.n.fill F2, h.j.keep hk (by omega)⟩
theorem spF_lo (l g : Nat) : ∀ j, j < 2 → (if j = 0 then Value.int .u64 ((l : Int) + 1) else spF l g j) = spF (l + 1) g j := fun j hj => by
  have hc : j = 0 ∨ j = 1 := by omega
  rcases hc with rfl | rfl
  · simp [spF]
  · rfl
theorem spF_hi (l g g2 : Nat) : ∀ j, j < 2 → (if j = 1 then Value.int .u64 (g2 : Int) else spF l g j) = spF l g2 j := fun j hj => by
  have hc : j = 0 ∨ j = 1 := by omega
  rcases hc with rfl | rfl <;> rfl
theorem Tw.setb {w : World} {r : Nat} {F G : Nat → Value} {W : World} (h : Tw w r F G W) (b o : Nat) (hb : r + 2 ≤ b) (v : Value) : Tw w r F G (W.setCell ⟨b, o, none⟩ v) := by
  have hk : Kp (fun c => c = b) W (W.setCell ⟨b, o, none⟩ v) := (Kp.refl (fun c => c = b) W).setCell (p := ⟨b, o, none⟩) (.inl rfl) v
  have hl := h.lo
  exact ⟨h.b.setCell (by show w.heap.size ≤ b; omega) _, h.lo, by have := hk.size; have := h.z; omega, h.n.keep hk (by omega), h.j.keep hk (by omega)⟩
theorem Tw.setj {w : World} {r : Nat} {F G : Nat → Value} {W : World} (h : Tw w r F G W) (G2 : Nat → Value) : Tw w r F G2 (W.setCells (r + 1) 0 (rowF 31 G2)) := by
  have hk : Kp (fun b => b = r + 1) W (W.setCells (r + 1) 0 (rowF 31 G2)) := Kp.setCells (M := fun b => b = r + 1) (.inl rfl) _ _ _ (Kp.refl _ _)
  exact ⟨(Kp.setCells (w := w) (b := r + 1) (.inr (by have := h.lo; omega)) _ _ _ (Kp.of_below h.b No)).below, h.lo, by have := hk.size; have := h.z; omega, h.n.keep hk (by omega), h.j.fill G2⟩
theorem zk_kn0 : ∀ j, j < 31 → zkF j = knF kn0 j := by
  intro j hj
  have h : rowF 31 zkF = rowF 31 (knF kn0) := by kernel_rfl
  have h2 := rowF_get 31 zkF j hj
  rw [h, rowF_get 31 _ j hj] at h2
  injection h2 with h2
  exact h2.symm
theorem Tw.start (w : World) : Tw w w.heap.size (knF kn0) (knF kn0) ((w.alloc (.cells #[.bool false, .bool false, .int .u32 0, .int .u32 0, .bool false, .int .u32 0, .int .u32 0, .bool false, .int .u32 0, .int .u32 0, .bool false, .int .u32 0, .int .u32 0, .bool false, .int .u32 0, .int .u32 0, .bool false, .int .u32 0, .int .u32 0, .bool false, .int .u32 0, .int .u32 0, .bool false, .int .u32 0, .int .u32 0, .bool false, .int .u32 0, .int .u32 0, .bool false, .int .u32 0, .int .u32 0] 42)).alloc (.cells #[.bool false, .bool false, .int .u32 0, .int .u32 0, .bool false, .int .u32 0, .int .u32 0, .bool false, .int .u32 0, .int .u32 0, .bool false, .int .u32 0, .int .u32 0, .bool false, .int .u32 0, .int .u32 0, .bool false, .int .u32 0, .int .u32 0, .bool false, .int .u32 0, .int .u32 0, .bool false, .int .u32 0, .int .u32 0, .bool false, .int .u32 0, .int .u32 0, .bool false, .int .u32 0, .int .u32 0] 42)) := by
  refine ⟨((Below.refl _ _).alloc (Nat.le_refl _) _).alloc (by simp <;> omega) _, Nat.le_refl _, by simp, ((zero_kn_blk w).congr zk_kn0).below ((Below.refl _ _).alloc (Nat.le_refl _) _), ?_⟩
  have := (zero_kn_blk (w.alloc (.cells #[.bool false, .bool false, .int .u32 0, .int .u32 0, .bool false, .int .u32 0, .int .u32 0, .bool false, .int .u32 0, .int .u32 0, .bool false, .int .u32 0, .int .u32 0, .bool false, .int .u32 0, .int .u32 0, .bool false, .int .u32 0, .int .u32 0, .bool false, .int .u32 0, .int .u32 0, .bool false, .int .u32 0, .int .u32 0, .bool false, .int .u32 0, .int .u32 0, .bool false, .int .u32 0, .int .u32 0] 42))).congr zk_kn0
  simpa using this
end Go.Proofs.Ytjlddhnjbjhmkaa
namespace Go.Proofs.Ytjlddhnjbjhmkaa
open Go.RowKit

/-- The worlds of right: what is known, in a block. -/
structure Rt (w : World) (k : Kn) (W : World) : Prop where
  b : Below w.heap.size w W
  z : w.heap.size + 1 ≤ W.heap.size
theorem rg_eql (W : World) : (binOp .neq 37 (.agg #[.bool false, .int .u32 0, .int .u32 0]) (.agg #[.bool false, .int .u32 0, .int .u32 0])).run Try.prog W = .ok (.bool false) W := by simp [go_sem]
theorem run_index_rg (W : World) (RR : List Value) (k : Kn) (hl : RR.length = 30) (hR : ∀ j, j < 30 → RR[j]? = some (knF k (1 + j))) (n : Nat) (hn : n < 10) :
    (Instr.index 40 (.agg RR.toArray) (.int .i64 (n : Int))).run Try.prog W = .ok (.agg #[.bool (k.r n).s, .int .u32 ((k.r n).l : Int), .int .u32 ((k.r n).g : Int)]) W := by
  have e : List.take 3 (List.drop (n * 3) RR) = [.bool (k.r n).s, .int .u32 ((k.r n).l : Int), .int .u32 ((k.r n).g : Int)] := by
    apply List.ext_getElem?
    intro j
    by_cases hj : j < 3
    · rw [List.getElem?_take_of_lt hj, List.getElem?_drop, hR (n * 3 + j) (by omega)]
      have hc : j = 0 ∨ j = 1 ∨ j = 2 := by omega
      rcases hc with rfl | rfl | rfl
      · rw [Nat.add_zero, knF_s]; rfl
      · rw [← Nat.add_assoc, knF_l]; rfl
      · rw [← Nat.add_assoc, knF_g]; rfl
    · rw [List.getElem?_eq_none (by simp; omega), List.getElem?_eq_none (by simp; omega)]
  have hs : (sizeOf 37).run Try.prog W = .ok 3 W := by kernel_rfl
  have ha : (isAgg 37).run Try.prog W = .ok true W := by kernel_rfl
  have hn2 : (n : Int) < 10 := by omega
  simp [Instr.index, asIntOf, run_underlying Try.underlying40, hn, part, hs, ha, e, Result.andThen]
set_option maxRecDepth 100000 in
set_option maxHeartbeats 1500000 in
theorem right_ok (w : World) (k : Kn) (hr : k.right) : Calls Try.prog 29 #[.agg (knL k).toArray] w fun e w' => e = .returned (.bool true) ∧ Below w.heap.size w w' := by
  obtain ⟨L, hL⟩ : ∃ L, L = (knL k).toArray := ⟨_, rfl⟩
  obtain ⟨W1, hW1⟩ : ∃ W1, W1 = w.alloc (.cells L 42) := ⟨_, rfl⟩
  have hb1 : Below w.heap.size w W1 := by rw [hW1]; exact ((Below.refl _ _).alloc (Nat.le_refl _) _)
  have hk1 : Blk W1 w.heap.size 42 31 (knF k) := by rw [hW1, hL]; exact Blk.boxed w _ 31 _
  have hz1 : w.heap.size + 1 ≤ W1.heap.size := by rw [hW1]; simp
  have hrg : W1.rangeAt w.heap.size 1 (rowF 30 (fun j => knF k (1 + j))) := hk1.rangeAt 1 30 (by omega)
  obtain ⟨RR, hRR⟩ : ∃ R, R = rowF 30 (fun j => knF k (1 + j)) := ⟨_, rfl⟩
  have hRs : RR.length = 30 := by rw [hRR, rowF_length]
  have hRg : ∀ j, j < 30 → RR[j]? = some (knF k (1 + j)) := fun j hj => by rw [hRR]; exact rowF_get 30 _ j hj
  rw [← hRR] at hrg
  clear hRR
  have HB1 := Lib.hid hb1; have HRG := Lib.hid hrg; have HZ := Lib.hid hz1; have HR := Lib.hid hr; have HRs := Lib.hid hRs; have HRg := Lib.hid hRg; clear hb1 hk1 hz1 hrg hr hRs hRg
  rw [← hL]; clear hL
  have HW1 := Lib.hid hW1; clear hW1
  go_enter Try.func29, Try.ntmps29
  go_upto_region 1 with fail
  rw [← HW1.out]
  refine wp_region_list ?_
  refine wpList_val0 (.pointer (some ⟨w.heap.size, 1, none⟩)) rfl (by kernel_rfl) ?_
  refine wpList_load_mid rfl 40 (.tmp 5) rfl w.heap.size 1 rfl RR _ HRG.out Try.underlying40 rfl (by rw [HRs.out]; kernel_rfl) ?_
  go_wp2
  go_loopw [7] (fun i wr => ∃ n : Nat, n ≤ 10 ∧ i = .int .i64 (n : Int) ∧ Rt w k wr) (fun i _ => 10 - (intOf i).toNat)
  case atStart => exact ⟨0, by omega, rfl, ⟨HB1.out, HZ.out⟩⟩
  case round =>
    obtain ⟨n, hn, rfl, hc⟩ := hrel
    by_cases hlt : n < 10
    · have hlt' : (n : Int) < 10 := by omega
      have HC := Lib.hid hc; clear hc
      have hix := run_index_rg wr RR k HRs.out HRg.out n hlt
      obtain ⟨rs, rl, rg⟩ := HR.out n
      obtain ⟨s, hs⟩ : ∃ s, s = (k.r n).s := ⟨_, rfl⟩
      obtain ⟨l, hl⟩ : ∃ s, s = (k.r n).l := ⟨_, rfl⟩
      obtain ⟨g, hg⟩ : ∃ s, s = (k.r n).g := ⟨_, rfl⟩
      rw [← hl, ← hg] at rs
      rw [← hs, ← hl, ← hg] at rg hix
      clear hs hl hg rl
      have dlg : decide (g < l) = false := by simp; omega
      have hN : Rt w k (wr.alloc (.cells #[.bool s, .int .u32 (l : Int), .int .u32 (g : Int)] 37)) := ⟨HC.out.b.alloc (by have := HC.out.z; omega) _, by simp; have := HC.out.z; omega⟩
      have HN := Lib.hid hN; clear hN
      cases s
      · obtain ⟨rfl, rfl⟩ := rg rfl
        have hq := rg_eql
        go_wp2
        go_roundw
        case rel => exact ⟨n + 1, by omega, by go_num, HN.out⟩
        case measure => simp [intOf]; omega
      · clear rg
        go_wp2
        go_roundw
        case rel => exact ⟨n + 1, by omega, by go_num, HN.out⟩
        case measure => simp [intOf]; omega
    · obtain rfl : n = 10 := by omega
      have HC := Lib.hid hc; clear hc
      go_wp2
      go_ret
      exact ⟨rfl, HC.out.b⟩
end Go.Proofs.Ytjlddhnjbjhmkaa
namespace Go.Proofs.Ytjlddhnjbjhmkaa
open Go.RowKit

theorem lt_of_cell {w : World} {p : Nat} {o : Nat} {v : Value} (h : w.cell? ⟨p, o, none⟩ = some v) : p < w.heap.size := by
  rcases Nat.lt_or_ge p w.heap.size with h2 | h2
  · exact h2
  · simp [World.cell?, Array.getElem?_eq_none h2] at h
/-- The blocks of the closure: the spans, the result's. -/
structure Bo (w : World) (sl sg : Nat) (W : World) : Prop where
  b : Below w.heap.size w W
  z : w.heap.size + 3 ≤ W.heap.size
  s : Blk W (w.heap.size + 1) 93 2 (spF sl sg)
  r : ∃ G, Blk W (w.heap.size + 2) 42 31 G
theorem Bo.more {w : World} {sl sg : Nat} {W W1 : World} (h : Bo w sl sg W) (hb : Below W.heap.size W W1) : Bo w sl sg W1 :=
  ⟨h.b.trans (hb.mono (by have := h.z; omega)), by have := hb.size; have := h.z; omega, h.s.below hb, by obtain ⟨G, hG⟩ := h.r; exact ⟨G, hG.below hb⟩⟩
theorem Bo.setm {w : World} {sl sg : Nat} {W : World} (h : Bo w sl sg W) (b : Nat) (hb : w.heap.size + 3 ≤ b) (cs : List Value) : Bo w sl sg (W.setCells b 0 cs) := by
  have hk : Kp (fun c => c = b) W (W.setCells b 0 cs) := Kp.setCells (M := fun c => c = b) (.inl rfl) _ _ _ (Kp.refl _ _)
  exact ⟨(Kp.setCells (w := w) (b := b) (.inr (by omega)) _ _ _ (Kp.of_below h.b No)).below, by have := hk.size; have := h.z; omega, h.s.keep hk (by omega), by obtain ⟨G, hG⟩ := h.r; exact ⟨G, hG.keep hk (by omega)⟩⟩
def BoPost (w : World) (sl sg : Nat) (k : Kn) (s6 : Value) (wx : World) : Prop := ∃ b6, s6 = .pointer (some ⟨b6, 0, none⟩) ∧ Bo w sl sg wx ∧ Blk wx b6 42 31 (knF k) ∧ w.heap.size + 3 ≤ b6

set_option maxRecDepth 100000 in
set_option maxHeartbeats 1500000 in
theorem both_ok {w : World} {x : Nat} {i : Ins8} {ctx : Nat} {k : Kn} (hI : InB w x i ctx k) (hm : i.May) (p : Nat) (hp : w.cell? ⟨p, 0, none⟩ = some (.pointer (some ⟨x, 0, none⟩))) (a b c d : Int) (dl dg sl sg : Nat) (ha : a = (dl : Int)) (hb : b = (dg : Int)) (hc : c = (sl : Int)) (hd : d = (sg : Int))
    (h1 : dl ≤ 4294967295) (h2 : dg ≤ 4294967295) (h3 : sl ≤ 4294967295) (h4 : sg ≤ 4294967295) :
    Calls Try.prog 55 #[.agg #[.int .u64 a, .int .u64 b], .agg #[.int .u64 c, .int .u64 d], .pointer (some ⟨p, 0, none⟩)] w fun e w' => e = .returned (.agg (knL (bothK i k ⟨dl, dg⟩ ⟨sl, sg⟩)).toArray) ∧ Below w.heap.size w w' := by
  subst ha; subst hb; subst hc; subst hd
  have hx := hI.lt
  have hpl : p < w.heap.size := lt_of_cell hp
  have hdst := hm.dst
  have hsrc := hm.src
  obtain ⟨W1, hW1⟩ : ∃ W1, W1 = ((w.alloc (.cells #[.int .u64 (dl : Int), .int .u64 (dg : Int)] 93)).alloc (.cells #[.int .u64 (sl : Int), .int .u64 (sg : Int)] 93)).alloc (.cells #[.bool false, .bool false, .int .u32 0, .int .u32 0, .bool false, .int .u32 0, .int .u32 0, .bool false, .int .u32 0, .int .u32 0, .bool false, .int .u32 0, .int .u32 0, .bool false, .int .u32 0, .int .u32 0, .bool false, .int .u32 0, .int .u32 0, .bool false, .int .u32 0, .int .u32 0, .bool false, .int .u32 0, .int .u32 0, .bool false, .int .u32 0, .int .u32 0, .bool false, .int .u32 0, .int .u32 0] 42) := ⟨_, rfl⟩
  have hb1 : Below w.heap.size w W1 := by rw [hW1]; exact ((((Below.refl _ _).alloc (Nat.le_refl _) _).alloc (by simp <;> omega) _).alloc (by simp <;> omega) _)
  have hd1 : Blk W1 w.heap.size 93 2 (spF dl dg) := by rw [hW1]; exact ((spB w dl dg).below ((Below.refl _ _).alloc (Nat.le_refl _) _)).below ((Below.refl _ _).alloc (Nat.le_refl _) _)
  have B1 : Bo w sl sg W1 := by
    refine ⟨hb1, by rw [hW1]; simp, ?_, zkF, ?_⟩
    · have := (spB (w.alloc (.cells #[.int .u64 (dl : Int), .int .u64 (dg : Int)] 93)) sl sg).below ((Below.refl _ _).alloc (Nat.le_refl _) (.cells #[.bool false, .bool false, .int .u32 0, .int .u32 0, .bool false, .int .u32 0, .int .u32 0, .bool false, .int .u32 0, .int .u32 0, .bool false, .int .u32 0, .int .u32 0, .bool false, .int .u32 0, .int .u32 0, .bool false, .int .u32 0, .int .u32 0, .bool false, .int .u32 0, .int .u32 0, .bool false, .int .u32 0, .int .u32 0, .bool false, .int .u32 0, .int .u32 0, .bool false, .int .u32 0, .int .u32 0] 42))
      rw [hW1]; simpa using this
    · have := zero_kn_blk ((w.alloc (.cells #[.int .u64 (dl : Int), .int .u64 (dg : Int)] 93)).alloc (.cells #[.int .u64 (sl : Int), .int .u64 (sg : Int)] 93))
      rw [hW1]; simpa using this
  have hp1 := (Kp.of_below hb1 No).cell hp (fun e => e)
  have HIN := Lib.hid (fun W (hb : Below w.heap.size w W) => hI.below hb)
  have HPC := Lib.hid (fun W (hb : Below w.heap.size w W) => (Kp.of_below hb No).cell hp (fun e => e))
  have HP1 := Lib.hid (fun W => cput_ok W k i.dst dl dg hdst h1 h2)
  have HP2 := Lib.hid (fun W => cput_ok W (k.put i.dst ⟨dl, dg⟩) i.src sl sg hsrc h3 h4)
  have HI1 := Lib.hid (HIN.out W1 hb1)
  have HB1 := Lib.hid B1; have HD1 := Lib.hid hd1; have HPP := Lib.hid hp1
  clear hb1 hd1 B1 hp1 hI hm hp
  have HW1 := Lib.hid hW1; clear hW1
  go_enter Try.func55, Try.ntmps55
  go_upto_region 1 with fail
  rw [← HW1.out]
  go_cut [6] from 7 to 17 (fun s6 wx => BoPost w sl sg (k.put i.dst ⟨dl, dg⟩) s6 wx)
  case first =>
    refine wp_region_noPanic ?_
    refine planM (.rd 0 (.rd 1 (.rd 2 (.rd 3 (.rd 4 (.rd 5 (.rd 6 (.rd 7 (.rd 8 (.rd 9 (.many [(10, some 17), (11, some 6)] (.eff 12 .done)))))))))))) [0, 1, 2, 3, 4, 5, 6, 7, 8, 9, 10, 11] (fun W => Below W1.heap.size W1 W) (by kernel_rfl) (by kernel_rfl) (fun _ _ _ _ _ h => h) ((Below.refl _ _).drew) ?_
    refine pm_rd (.pointer (some ⟨x, 0, none⟩)) rfl rfl (fun W hS => ?_) (fun K hK => ?_)
    · have f0 := (Kp.of_below hS No).cell HPP.out (fun e => e)
      simp [go_sem, f0]
    go_simp
    refine hK _ ?_
    clear hK K
    repeat (refine pm_pure rfl (fun K hK => ?_); go_simp; refine hK _ ?_; clear hK K)
    refine pm_rdv 10 (.agg (knL k).toArray) rfl rfl rfl (fun W hS => exec_load_mid 42 (.tmp 9) rfl (x) (6) rfl (knL k) _ (rg_below HI1.out.known hS) Try.underlying42 rfl (by rw [knL_length]; exact info_kn)) ?_
    refine pm_rd (.pointer (some ⟨x, 0, none⟩)) rfl rfl (fun W hS => ?_) (fun K hK => ?_)
    · have f0 := (Kp.of_below hS No).cell HPP.out (fun e => e)
      simp [go_sem, f0]
    go_simp
    refine hK _ ?_
    clear hK K
    repeat (refine pm_pure rfl (fun K hK => ?_); go_simp; refine hK _ ?_; clear hK K)
    refine pm_rd (.int .i64 (i.dst : Int)) rfl rfl (fun W hS => ?_) (fun K hK => ?_)
    · have f0 := (Kp.of_below hS No).cell HI1.out.cdst (fun e => e)
      simp [go_sem, f0]
    go_simp
    refine hK _ ?_
    clear hK K
    repeat (refine pm_pure rfl (fun K hK => ?_); go_simp; refine hK _ ?_; clear hK K)
    refine pm_rdv 16 (.agg #[.int .u64 (dl : Int), .int .u64 (dg : Int)]) rfl rfl rfl (fun W hS => exec_load_mid 93 (.tmp 3) rfl w.heap.size 0 rfl [.int .u64 (dl : Int), .int .u64 (dg : Int)] _ (rg_below (spB_range HD1.out) hS) Try.underlying93 rfl (by kernel_rfl)) ?_
    refine pm_many (fun j v W => if j = 10 then v = .agg (knL (k.put i.dst ⟨dl, dg⟩)).toArray else ∃ b, v = .pointer (some ⟨b, 0, none⟩) ∧ W1.heap.size ≤ b ∧ Blk W b 42 31 zkF) ?_ ?_ ?_
    · intro j v w1 w2 h hb
      by_cases h4 : j = 10
      · simp only [if_pos h4] at h ⊢; exact h
      · simp only [if_neg h4] at h ⊢
        obtain ⟨b, h1, h2, h3⟩ := h
        exact ⟨b, h1, h2, h3.below hb⟩
    · intro c hc l v w1 hS hb hl hn hV
      simp only [List.mem_cons, List.not_mem_nil, or_false] at hc
      rcases hc with rfl | rfl
      · have E10 : ∀ a : Act, (putM v l [(10, some 17), (11, some 6)] a).tmps[10]?.getD undef = a.tmps[10]?.getD undef := fun a => by simpa [Array.getD_eq_getD_getElem?] using putM_eval_other (v := v) (l := l) 10 [(10, some 17), (11, some 6)] a (by simp)
        have E15 : ∀ a : Act, (putM v l [(10, some 17), (11, some 6)] a).tmps[15]?.getD undef = a.tmps[15]?.getD undef := fun a => by simpa [Array.getD_eq_getD_getElem?] using putM_eval_other (v := v) (l := l) 15 [(10, some 17), (11, some 6)] a (by simp)
        have E16 : ∀ a : Act, (putM v l [(10, some 17), (11, some 6)] a).tmps[16]?.getD undef = a.tmps[16]?.getD undef := fun a => by simpa [Array.getD_eq_getD_getElem?] using putM_eval_other (v := v) (l := l) 16 [(10, some 17), (11, some 6)] a (by simp)
        refine pm_one rfl rfl (fun K' hK => ?_)
        refine wp_calls_ret (f := 40) (args := #[.agg (knL k).toArray, .int .i64 (i.dst : Int), .agg #[.int .u64 (dl : Int), .int .u64 (dg : Int)]]) ?_ (HP1.out w1) (fun w3 hb3 => ?_)
        · simp [execOp, go_sem]
          exact ⟨(E10 _).trans rfl, (E15 _).trans rfl, (E16 _).trans rfl⟩
        exact hK _ _ ⟨_, rfl, Below.trans hS (hb3.mono hS.size), hb3, rfl⟩
      · refine pm_one rfl rfl (fun K' hK => ?_)
        refine wp_value (w' := w1.alloc (.cells #[.bool false, .bool false, .int .u32 0, .int .u32 0, .bool false, .int .u32 0, .int .u32 0, .bool false, .int .u32 0, .int .u32 0, .bool false, .int .u32 0, .int .u32 0, .bool false, .int .u32 0, .int .u32 0, .bool false, .int .u32 0, .int .u32 0, .bool false, .int .u32 0, .int .u32 0, .bool false, .int .u32 0, .int .u32 0, .bool false, .int .u32 0, .int .u32 0, .bool false, .int .u32 0, .int .u32 0] 42)) (.pointer (some ⟨w1.heap.size, 0, none⟩)) (by kernel_rfl) ?_
        have hb3 : Below w1.heap.size w1 (w1.alloc (.cells #[.bool false, .bool false, .int .u32 0, .int .u32 0, .bool false, .int .u32 0, .int .u32 0, .bool false, .int .u32 0, .int .u32 0, .bool false, .int .u32 0, .int .u32 0, .bool false, .int .u32 0, .int .u32 0, .bool false, .int .u32 0, .int .u32 0, .bool false, .int .u32 0, .int .u32 0, .bool false, .int .u32 0, .int .u32 0, .bool false, .int .u32 0, .int .u32 0, .bool false, .int .u32 0, .int .u32 0] 42)) := (Below.refl _ _).alloc (Nat.le_refl _) _
        exact hK _ _ ⟨_, rfl, Below.trans hS (hb3.mono hS.size), hb3, w1.heap.size, rfl, hS.size, zero_kn_blk w1⟩
    · intro v w2 hS hb hV
      have v10 : v 10 = .agg (knL (k.put i.dst ⟨dl, dg⟩)).toArray := hV (10, some 17) (by simp)
      obtain ⟨b6, v11, hb6, hB6⟩ : ∃ b, v 11 = .pointer (some ⟨b, 0, none⟩) ∧ W1.heap.size ≤ b ∧ Blk w2 b 42 31 zkF := hV (11, some 6) (by simp)
      simp only [putM, if_true, v10, v11]
      clear hV v10 v11
      have hlo : w.heap.size + 3 ≤ b6 := Nat.le_trans HB1.out.z hb6
      have hT := (HB1.out.more hS).setm b6 hlo (rowF 31 (knF (k.put i.dst ⟨dl, dg⟩)))
      have hD := hB6.fill (knF (k.put i.dst ⟨dl, dg⟩))
      refine pm_store rfl rfl rfl 42 (.tmp 6) (.tmp 17) rfl (b6) 0 (knL (k.put i.dst ⟨dl, dg⟩)).toArray rfl rfl (by rw [knA_size]; exact there_blk hB6) (by rw [knA_size]; exact info_kn) (knL_one _) (fun h => by cases h) ?_
      rw [knL_tl]
      refine pm_done ?_
      refine NoPanic.normal ?_
      go_wp2_with fail
      go_meet
      exact ⟨b6, rfl, hT, hD, hlo⟩
  case rest =>
    obtain ⟨b6, rfl, hB5, hM5, hlo⟩ := hcut
    generalize wc = W5 at *
    have HB5 := Lib.hid hB5; have HM5 := Lib.hid hM5; clear hB5 hM5
    have c0 := HPC.out W5 HB5.out.b
    have c1 := (HIN.out W5 HB5.out.b).cop
    by_cases h22 : i.op = 22
    · have q22 : ((i.op : Int) == 22) = true := by simp; omega
      have HBK : Hid (bothK i k ⟨dl, dg⟩ ⟨sl, sg⟩ = (k.put i.dst ⟨dl, dg⟩).put i.src ⟨sl, sg⟩) := Lib.hid (by unfold bothK; rw [if_pos h22])
      clear h22
      go_upto_region 3 with fail
      clear c0 c1
      have HC0 := Lib.hid (HPC.out W5 HB5.out.b)
      have HI5 := Lib.hid (HIN.out W5 HB5.out.b)
      refine wp_region_noPanic ?_
      refine planM (.rd 0 (.rd 1 (.rd 2 (.rd 3 (.rd 4 (.rd 5 (.rd 6 (.eff 7 (.eff 8 .done))))))))) [0, 1, 2, 3, 4, 5, 6, 7] (fun W => Below W5.heap.size W5 W) (by kernel_rfl) (by kernel_rfl) (fun _ _ _ _ _ h => h) ((Below.refl _ _).drew) ?_
      refine pm_rdv 24 (.agg (knL (k.put i.dst ⟨dl, dg⟩)).toArray) rfl rfl rfl (fun W hS => exec_load_mid 42 (.tmp 6) rfl (b6) (0) rfl (knL (k.put i.dst ⟨dl, dg⟩)) _ (rg_below HM5.out.range hS) Try.underlying42 rfl (by rw [knL_length]; exact info_kn)) ?_
      refine pm_rd (.pointer (some ⟨x, 0, none⟩)) rfl rfl (fun W hS => ?_) (fun K hK => ?_)
      · have f0 := (Kp.of_below hS No).cell HC0.out (fun e => e)
        simp [go_sem, f0]
      go_simp
      refine hK _ ?_
      clear hK K
      repeat (refine pm_pure rfl (fun K hK => ?_); go_simp; refine hK _ ?_; clear hK K)
      refine pm_rd (.int .i64 (i.src : Int)) rfl rfl (fun W hS => ?_) (fun K hK => ?_)
      · have f0 := (Kp.of_below hS No).cell HI5.out.csrc (fun e => e)
        simp [go_sem, f0]
      go_simp
      refine hK _ ?_
      clear hK K
      repeat (refine pm_pure rfl (fun K hK => ?_); go_simp; refine hK _ ?_; clear hK K)
      refine pm_rdv 30 (.agg #[.int .u64 (sl : Int), .int .u64 (sg : Int)]) rfl rfl rfl (fun W hS => exec_load_mid 93 (.tmp 4) rfl (w.heap.size + 1) 0 rfl [.int .u64 (sl : Int), .int .u64 (sg : Int)] _ (rg_below (spB_range HB5.out.s) hS) Try.underlying93 rfl (by kernel_rfl)) ?_
      refine pm_eff rfl rfl (fun K hK => ?_)
      go_simp
      (with_reducible refine (HP2.out _).mono ?_)
      rintro e w6 ⟨rfl, hb6⟩
      have HB6 : Hid (Below W5.heap.size W5 w6) := Lib.hid (((Below.refl _ _).drew).trans hb6); clear hb6
      refine hK _ _ (fun _ => HB6.out) ?_
      clear hK K
      have T7 := (HB5.out.more HB6.out).setm b6 hlo (rowF 31 (knF ((k.put i.dst ⟨dl, dg⟩).put i.src ⟨sl, sg⟩)))
      have M6 := HM5.out.below HB6.out
      have M7 := M6.fill (knF ((k.put i.dst ⟨dl, dg⟩).put i.src ⟨sl, sg⟩))
      refine pm_store rfl rfl rfl 42 (.tmp 6) (.tmp 31) rfl (b6) 0 (knL ((k.put i.dst ⟨dl, dg⟩).put i.src ⟨sl, sg⟩)).toArray rfl rfl (by rw [knA_size]; exact there_blk M6) (by rw [knA_size]; exact info_kn) (knL_one _) (fun h => by cases h) ?_
      rw [knL_tl]
      refine pm_done ?_
      refine NoPanic.normal ?_
      generalize hW7 : w6.setCells b6 0 (rowF 31 (knF ((k.put i.dst ⟨dl, dg⟩).put i.src ⟨sl, sg⟩))) = W7 at T7 M7 ⊢
      clear hW7 M6
      have HB7 := Lib.hid T7; have HM7 := Lib.hid M7; clear T7 M7
      go_upto_region 4 with fail
      obtain ⟨G, hG⟩ := HB7.out.r
      have HG := Lib.hid hG; clear hG
      obtain ⟨W4, HW4, HR4, HB4, HK4⟩ := fin_store HB7.out.b HG.out (Nat.le_add_right _ _) (knL ((k.put i.dst ⟨dl, dg⟩).put i.src ⟨sl, sg⟩)) (knL_length _)
      refine wp_region_list ?_
      refine wpList_load_mid rfl 42 (.tmp 6) rfl b6 0 rfl (knL ((k.put i.dst ⟨dl, dg⟩).put i.src ⟨sl, sg⟩)) _ HM7.out.range Try.underlying42 rfl (by rw [knL_length]; exact info_kn) ?_
      refine wpList_store_mid rfl 42 (.tmp 5) (.tmp 32) rfl (w.heap.size + 2) 0 (knL ((k.put i.dst ⟨dl, dg⟩).put i.src ⟨sl, sg⟩)).toArray rfl rfl (by rw [knA_size]; exact there_blk HG.out) (by rw [knA_size]; exact info_kn) (knL_one _) ?_
      rw [← HW4.out]
      go_wp2
      exact bodyPost_ret (v := .agg (knL ((k.put i.dst ⟨dl, dg⟩).put i.src ⟨sl, sg⟩)).toArray) (results_cell1_range Try.results55 _ _ (w.heap.size + 2) 0 _ _ rfl HR4.out Try.underlying42 rfl (by rw [knL_length]; exact info_kn)) rfl ⟨by rw [HBK.out], HB4.out⟩
    · have q22 : ((i.op : Int) == 22) = false := by simp; omega
      have HBK : Hid (bothK i k ⟨dl, dg⟩ ⟨sl, sg⟩ = k.put i.dst ⟨dl, dg⟩) := Lib.hid (by unfold bothK; rw [if_neg h22])
      clear h22
      go_upto_region 4 with fail
      obtain ⟨G, hG⟩ := HB5.out.r
      have HG := Lib.hid hG; clear hG
      obtain ⟨W4, HW4, HR4, HB4, HK4⟩ := fin_store HB5.out.b HG.out (Nat.le_add_right _ _) (knL (k.put i.dst ⟨dl, dg⟩)) (knL_length _)
      refine wp_region_list ?_
      refine wpList_load_mid rfl 42 (.tmp 6) rfl b6 0 rfl (knL (k.put i.dst ⟨dl, dg⟩)) _ HM5.out.range Try.underlying42 rfl (by rw [knL_length]; exact info_kn) ?_
      refine wpList_store_mid rfl 42 (.tmp 5) (.tmp 32) rfl (w.heap.size + 2) 0 (knL (k.put i.dst ⟨dl, dg⟩)).toArray rfl rfl (by rw [knA_size]; exact there_blk HG.out) (by rw [knA_size]; exact info_kn) (knL_one _) ?_
      rw [← HW4.out]
      go_wp2
      exact bodyPost_ret (v := .agg (knL (k.put i.dst ⟨dl, dg⟩)).toArray) (results_cell1_range Try.results55 _ _ (w.heap.size + 2) 0 _ _ rfl HR4.out Try.underlying42 rfl (by rw [knL_length]; exact info_kn)) rfl ⟨by rw [HBK.out], HB4.out⟩
end Go.Proofs.Ytjlddhnjbjhmkaa
namespace Go.Proofs.Ytjlddhnjbjhmkaa
open Go.RowKit

/-- The worlds of less. -/
structure LsW (w : World) (x b4 b5 dl dg sl sg : Nat) (F G : Nat → Value) (W : World) : Prop where
  t : Tw w (w.heap.size + 1) F G W
  c : W.cell? ⟨w.heap.size, 0, none⟩ = some (.pointer (some ⟨x, 0, none⟩))
  d : Blk W b4 93 2 (spF dl dg)
  s : Blk W b5 93 2 (spF sl sg)
  l4 : w.heap.size + 3 ≤ b4
  l5 : w.heap.size + 3 ≤ b5
theorem LsW.more {w : World} {x b4 b5 dl dg sl sg : Nat} {F G : Nat → Value} {W W1 : World} (h : LsW w x b4 b5 dl dg sl sg F G W) (hb : Below W.heap.size W W1) : LsW w x b4 b5 dl dg sl sg F G W1 :=
  ⟨h.t.more hb, (Kp.of_below hb No).cell h.c (fun e => e), h.d.below hb, h.s.below hb, h.l4, h.l5⟩
theorem LsW.setn {w : World} {x b4 b5 dl dg sl sg : Nat} {F G : Nat → Value} {W : World} (h : LsW w x b4 b5 dl dg sl sg F G W) (F2 : Nat → Value) : LsW w x b4 b5 dl dg sl sg F2 G (W.setCells (w.heap.size + 1) 0 (rowF 31 F2)) := by
  have hk : Kp (fun b => b = w.heap.size + 1) W (W.setCells (w.heap.size + 1) 0 (rowF 31 F2)) := Kp.setCells (M := fun b => b = w.heap.size + 1) (.inl rfl) _ _ _ (Kp.refl _ _)
  have h4 := h.l4
  have h5 := h.l5
  exact ⟨h.t.setn F2, hk.cell h.c (by show ¬ w.heap.size = w.heap.size + 1; omega), h.d.keep hk (by omega), h.s.keep hk (by omega), h4, h5⟩
theorem LsW.setj {w : World} {x b4 b5 dl dg sl sg : Nat} {F G : Nat → Value} {W : World} (h : LsW w x b4 b5 dl dg sl sg F G W) (F2 : Nat → Value) : LsW w x b4 b5 dl dg sl sg F F2 (W.setCells (w.heap.size + 2) 0 (rowF 31 F2)) := by
  have hk : Kp (fun b => b = w.heap.size + 2) W (W.setCells (w.heap.size + 2) 0 (rowF 31 F2)) := Kp.setCells (M := fun b => b = w.heap.size + 2) (.inl rfl) _ _ _ (Kp.refl _ _)
  have h4 := h.l4
  have h5 := h.l5
  exact ⟨h.t.setj F2, hk.cell h.c (by show ¬ w.heap.size = w.heap.size + 2; omega), h.d.keep hk (by omega), h.s.keep hk (by omega), h4, h5⟩
def LsPost (w : World) (x dl dg sl sg : Nat) (kz : Kn) (s4 s5 : Value) (wx : World) : Prop := ∃ b4 b5, s4 = .pointer (some ⟨b4, 0, none⟩) ∧ s5 = .pointer (some ⟨b5, 0, none⟩) ∧ LsW w x b4 b5 dl dg sl sg (knF kz) (knF kz) wx
/-- What may have come up of the calls and the blocks. -/
structure LsJ (W1 : World) (dl dg sl sg : Nat) (l : Nat → Bool) (v : Nat → Value) (W : World) : Prop where
  a : l 6 = true → v 6 = .agg #[.int .u64 (dl : Int), .int .u64 (dg : Int)]
  b : l 8 = true → v 8 = .agg #[.int .u64 (sl : Int), .int .u64 (sg : Int)]
  c : l 9 = true → ∃ b, v 9 = .pointer (some ⟨b, 0, none⟩) ∧ W1.heap.size ≤ b ∧ Blk W b 93 2 (spF 0 0)
  d : l 10 = true → ∃ b, v 10 = .pointer (some ⟨b, 0, none⟩) ∧ W1.heap.size ≤ b ∧ Blk W b 93 2 (spF 0 0)
  e : l 9 = true → l 10 = true → v 9 ≠ v 10
theorem LsJ.ups6 {W1 : World} {dl dg sl sg : Nat} {l : Nat → Bool} {v : Nat → Value} {W W2 : World} (h : LsJ W1 dl dg sl sg l v W) (hb : Below W.heap.size W W2) : LsJ W1 dl dg sl sg (upd l 6 true) (upd v 6 (.agg #[.int .u64 (dl : Int), .int .u64 (dg : Int)])) W2 :=
  ⟨fun _ => rfl, fun hh => h.b hh, fun hh => by obtain ⟨b, p, q, r⟩ := h.c hh; exact ⟨b, p, q, r.below hb⟩, fun hh => by obtain ⟨b, p, q, r⟩ := h.d hh; exact ⟨b, p, q, r.below hb⟩, fun h1 h2 => h.e h1 h2⟩
theorem LsJ.ups8 {W1 : World} {dl dg sl sg : Nat} {l : Nat → Bool} {v : Nat → Value} {W W2 : World} (h : LsJ W1 dl dg sl sg l v W) (hb : Below W.heap.size W W2) : LsJ W1 dl dg sl sg (upd l 8 true) (upd v 8 (.agg #[.int .u64 (sl : Int), .int .u64 (sg : Int)])) W2 :=
  ⟨fun hh => h.a hh, fun _ => rfl, fun hh => by obtain ⟨b, p, q, r⟩ := h.c hh; exact ⟨b, p, q, r.below hb⟩, fun hh => by obtain ⟨b, p, q, r⟩ := h.d hh; exact ⟨b, p, q, r.below hb⟩, fun h1 h2 => h.e h1 h2⟩
theorem LsJ.ups9 {W1 : World} {dl dg sl sg : Nat} {l : Nat → Bool} {v : Nat → Value} {W : World} (h : LsJ W1 dl dg sl sg l v W) (hz : W1.heap.size ≤ W.heap.size) : LsJ W1 dl dg sl sg (upd l 9 true) (upd v 9 (.pointer (some ⟨W.heap.size, 0, none⟩))) (W.alloc (.cells #[.int .u64 0, .int .u64 0] 93)) :=
  have hb := (Below.refl W.heap.size W).alloc (Nat.le_refl _) (.cells #[.int .u64 0, .int .u64 0] 93)
  ⟨fun hh => h.a hh, fun hh => h.b hh, fun _ => ⟨W.heap.size, rfl, hz, spB W 0 0⟩, fun hh => by obtain ⟨b, p, q, r⟩ := h.d hh; exact ⟨b, p, q, r.below hb⟩, fun _ h2 e => by
    obtain ⟨b, p, q, r⟩ := h.d h2
    have e2 : (Value.pointer (some ⟨W.heap.size, 0, none⟩)) = v 10 := e
    rw [p] at e2
    injection e2 with e2; injection e2 with e2; injection e2 with e2
    have := r.lt
    omega⟩
theorem LsJ.ups10 {W1 : World} {dl dg sl sg : Nat} {l : Nat → Bool} {v : Nat → Value} {W : World} (h : LsJ W1 dl dg sl sg l v W) (hz : W1.heap.size ≤ W.heap.size) : LsJ W1 dl dg sl sg (upd l 10 true) (upd v 10 (.pointer (some ⟨W.heap.size, 0, none⟩))) (W.alloc (.cells #[.int .u64 0, .int .u64 0] 93)) :=
  have hb := (Below.refl W.heap.size W).alloc (Nat.le_refl _) (.cells #[.int .u64 0, .int .u64 0] 93)
  ⟨fun hh => h.a hh, fun hh => h.b hh, fun hh => by obtain ⟨b, p, q, r⟩ := h.c hh; exact ⟨b, p, q, r.below hb⟩, fun _ => ⟨W.heap.size, rfl, hz, spB W 0 0⟩, fun h1 _ e => by
    obtain ⟨b, p, q, r⟩ := h.c h1
    have e2 : v 9 = (Value.pointer (some ⟨W.heap.size, 0, none⟩)) := e
    rw [p] at e2
    injection e2 with e2; injection e2 with e2; injection e2 with e2
    have := r.lt
    omega⟩
theorem LsJ.zero (W1 W : World) (dl dg sl sg : Nat) : LsJ W1 dl dg sl sg (fun _ => false) (fun _ => undef) W := ⟨(fun h => by cases h), (fun h => by cases h), (fun h => by cases h), (fun h => by cases h), (fun h => by cases h)⟩
theorem Tw.start1 (w : World) (x : Nat) : Tw w (w.heap.size + 1) (knF kn0) (knF kn0) (((w.alloc (.cells #[.pointer (some ⟨x, 0, none⟩)] 77)).alloc (.cells #[.bool false, .bool false, .int .u32 0, .int .u32 0, .bool false, .int .u32 0, .int .u32 0, .bool false, .int .u32 0, .int .u32 0, .bool false, .int .u32 0, .int .u32 0, .bool false, .int .u32 0, .int .u32 0, .bool false, .int .u32 0, .int .u32 0, .bool false, .int .u32 0, .int .u32 0, .bool false, .int .u32 0, .int .u32 0, .bool false, .int .u32 0, .int .u32 0, .bool false, .int .u32 0, .int .u32 0] 42)).alloc (.cells #[.bool false, .bool false, .int .u32 0, .int .u32 0, .bool false, .int .u32 0, .int .u32 0, .bool false, .int .u32 0, .int .u32 0, .bool false, .int .u32 0, .int .u32 0, .bool false, .int .u32 0, .int .u32 0, .bool false, .int .u32 0, .int .u32 0, .bool false, .int .u32 0, .int .u32 0, .bool false, .int .u32 0, .int .u32 0, .bool false, .int .u32 0, .int .u32 0, .bool false, .int .u32 0, .int .u32 0] 42)) := by
  have h := Tw.start (w.alloc (.cells #[.pointer (some ⟨x, 0, none⟩)] 77))
  have hb : Below w.heap.size w (w.alloc (.cells #[.pointer (some ⟨x, 0, none⟩)] 77)) := (Below.refl _ _).alloc (Nat.le_refl _) _
  have e : (w.alloc (.cells #[.pointer (some ⟨x, 0, none⟩)] 77)).heap.size = w.heap.size + 1 := by simp
  rw [e] at h
  exact ⟨hb.trans (h.b.mono (by simp)), by omega, h.z, h.n, h.j⟩
end Go.Proofs.Ytjlddhnjbjhmkaa
