/- The VM: a run begun, or refused. -/
import Derived.Test.YtpnkbpjhbmacaaaVm16
set_option linter.unusedVariables false
set_option linter.unusedSimpArgs false
namespace Go.Proofs.Ytpnkbpjhbmacaaa
open Go.RowKit

theorem Below.b1 {w W1 : World} {o1 o2 : Obj} (h : W1 = (w.alloc o1).alloc o2) : Below w.heap.size w W1 := by
  rw [h]; exact ((Below.refl _ _).alloc (Nat.le_refl _) _).alloc (by simp) _
structure Beg (w : World) (a0 a1 : Value) (W : World) : Prop where
  b : Below w.heap.size w W
  z : w.heap.size + 2 ≤ W.heap.size
  c0 : W.cell? ⟨w.heap.size, 0, none⟩ = some a0
  c1 : W.cell? ⟨w.heap.size, 1, none⟩ = some a1
  r : ∃ F, Blk W (w.heap.size + 1) 34 69 F
theorem Beg.start (w : World) (a0 a1 : Value) (cs : Array Value) (hcs : cs.size = 69) : Beg w a0 a1 ((w.alloc (.cells #[a0, a1] 24)).alloc (.cells cs 34)) := by
  refine ⟨Below.b1 rfl, by simp, by simp [go_sem], by simp [go_sem], (fun j => cs.getD j undef), ?_⟩
  have := Blk.lit (w.alloc (.cells #[a0, a1] 24)) 34 cs
  rw [hcs] at this
  simpa using this
theorem Beg.more {w : World} {a0 a1 : Value} {W W1 : World} {M : Nat → Prop} (h : Beg w a0 a1 W) (hk : Kp M W W1) (hM : ∀ k, M k → w.heap.size + 2 ≤ k) : Beg w a0 a1 W1 := by
  have hz := h.z
  refine ⟨((Kp.of_below h.b No).trans hk (fun k hk' hm => by have := hM k hm; omega)).below, by have := hk.size; omega, ?_, ?_, ?_⟩
  · exact hk.cell h.c0 (fun e => by have : w.heap.size + 2 ≤ w.heap.size := hM _ e; omega)
  · exact hk.cell h.c1 (fun e => by have : w.heap.size + 2 ≤ w.heap.size := hM _ e; omega)
  · obtain ⟨F, hF⟩ := h.r
    exact ⟨F, hF.keep hk (fun e => by have := hM _ e; omega)⟩
theorem Beg.belowp {w : World} {a0 a1 : Value} {W W1 : World} (h : Beg w a0 a1 W) (hb : Below W.heap.size W W1) : Beg w a0 a1 W1 := h.more (Kp.of_below hb No) (fun _ e => e.elim)
theorem Beg.drewp {w : World} {a0 a1 : Value} {W : World} (h : Beg w a0 a1 W) : Beg w a0 a1 W.drew := h.belowp ((Below.refl _ _).drew)

def insZs (pr : List InsZ) : List Value := pr.flatMap insZC

set_option maxRecDepth 100000 in
set_option maxHeartbeats 1000000 in
theorem begun_no {w : World} {ok : Nat → Prop} (ctx : Int) (IA : Option Addr) (ic : Nat) (pr : List InsZ) (hin : Sl w ok 5 IA pr.length ic (pr.flatMap insZC)) (hpl : pr.length ≤ 1000000) (CA : Option Addr) (cl cc : Nat) (A : Value) (T : Value)
    (h : checkN ctx pr ≠ 0 ∨ (cl : Int) ≠ ctx) :
    Calls Try.prog 22 #[.agg #[.int .i64 ctx, .slice IA pr.length ic], .slice CA cl cc, A, T] w fun e w' => e = .returned (.tuple #[.agg Try.zeroCells34, .int .i64 2]) ∧ Below w.heap.size w w' := by
  obtain ⟨W1, hW1⟩ : ∃ W1, W1 = (w.alloc (.cells #[.int .i64 ctx, .slice IA pr.length ic] 24)).alloc (.cells Try.zeroCells34 34) := ⟨_, rfl⟩
  have G1 : Beg w (.int .i64 ctx) (.slice IA pr.length ic) W1 := by rw [hW1]; exact Beg.start w _ _ _ rfl
  have c0 := G1.c0
  have c1 := G1.c1
  have HG1 := Lib.hid G1; clear G1
  have HW1 := Lib.hid hW1; clear hW1
  have hck : ∀ W : World, Below w.heap.size w W → Calls Try.prog 28 #[.agg #[.int .i64 ctx, .slice IA pr.length ic]] W fun e w' => e = .returned (.int .i64 (checkN ctx pr)) ∧ Below W.heap.size W w' := fun W hW => check_ok W ctx IA ic pr (hin.move (Mv.of_below hW ok)) hpl
  have HCK := Lib.hid hck; clear hck
  obtain ⟨n, hn⟩ : ∃ n, checkN ctx pr = n := ⟨_, rfl⟩
  rw [hn] at HCK h
  clear hn
  by_cases h0 : n = 0
  · obtain rfl := h0
    have hne : ((cl : Int) != ctx) = true := by simpa using h
    clear h
    go_enter Try.func22, Try.ntmps22
    go_upto_region 1 with fail
    rw [← HW1.out]
    go_upto_region 2 with (go_at_call 28; (with_reducible refine (HCK.out _ HG1.out.b).mono ?_); rintro e W2 ⟨rfl, hb2⟩; have G2 := HG1.out.belowp hb2; have c0 := G2.c0; have c1 := G2.c1; have HG2 := Lib.hid G2; clear G2 hb2)
    obtain ⟨FF, hF⟩ := HG2.out.r
    have hth := there_blk hF
    rw [← size_ranz] at hth
    refine wp_region_list ?_
    refine wpList_value (w' := W2) (.agg Try.zeroCells34) rfl (by kernel_rfl) ?_
    refine wpList_store_mid rfl 34 (.tmp 8) (.tmp 21) rfl (w.heap.size + 1) 0 Try.zeroCells34 rfl rfl hth info_ran one_ranz ?_
    have hr3 := World.rangeAt_setCells_same W2 (w.heap.size + 1) 0 Try.zeroCells34.toList hth
    have hk3 : Kp No w (W2.setCells (w.heap.size + 1) 0 Try.zeroCells34.toList) := Kp.setCells (.inr (by omega)) _ _ _ (Kp.of_below HG2.out.b No)
    clear hF hth
    generalize hW3 : W2.setCells (w.heap.size + 1) 0 Try.zeroCells34.toList = W3 at hr3 hk3 ⊢
    have HW3 := Lib.hid hW3; clear hW3
    have HR3 := Lib.hid hr3; clear hr3
    have HK3 := Lib.hid hk3; clear hk3
    go_wp2
    exact bodyPost_ret (v := .tuple #[.agg Try.zeroCells34, .int .i64 2]) (results_cell_range Try.results22 _ _ (w.heap.size + 1) 0 Try.zeroCells34.toList _ rfl HR3.out Try.underlying34 rfl info_ran _ rfl) rfl ⟨rfl, HK3.out.below⟩
  · have hne : (n != 0) = true := by simpa using h0
    have hne2 : (n == 0) = false := by simpa using h0
    clear h h0
    go_enter Try.func22, Try.ntmps22
    go_upto_region 1 with fail
    rw [← HW1.out]
    go_upto_region 2 with (go_at_call 28; (with_reducible refine (HCK.out _ HG1.out.b).mono ?_); rintro e W2 ⟨rfl, hb2⟩; have G2 := HG1.out.belowp hb2; have c0 := G2.c0; have c1 := G2.c1; have HG2 := Lib.hid G2; clear G2 hb2)
    obtain ⟨FF, hF⟩ := HG2.out.r
    have hth := there_blk hF
    rw [← size_ranz] at hth
    refine wp_region_list ?_
    refine wpList_value (w' := W2) (.agg Try.zeroCells34) rfl (by kernel_rfl) ?_
    refine wpList_store_mid rfl 34 (.tmp 8) (.tmp 21) rfl (w.heap.size + 1) 0 Try.zeroCells34 rfl rfl hth info_ran one_ranz ?_
    have hr3 := World.rangeAt_setCells_same W2 (w.heap.size + 1) 0 Try.zeroCells34.toList hth
    have hk3 : Kp No w (W2.setCells (w.heap.size + 1) 0 Try.zeroCells34.toList) := Kp.setCells (.inr (by omega)) _ _ _ (Kp.of_below HG2.out.b No)
    clear hF hth
    generalize hW3 : W2.setCells (w.heap.size + 1) 0 Try.zeroCells34.toList = W3 at hr3 hk3 ⊢
    have HW3 := Lib.hid hW3; clear hW3
    have HR3 := Lib.hid hr3; clear hr3
    have HK3 := Lib.hid hk3; clear hk3
    go_wp2
    exact bodyPost_ret (v := .tuple #[.agg Try.zeroCells34, .int .i64 2]) (results_cell_range Try.results22 _ _ (w.heap.size + 1) 0 Try.zeroCells34.toList _ rfl HR3.out Try.underlying34 rfl info_ran _ rfl) rfl ⟨rfl, HK3.out.below⟩
def BegunPost (w : World) (T : (Nat → Prop) → List Mom → World → Prop) (B : Nat → Prop) (pr : List Ins8) (cx : List UInt8) (ans : List Nat) (e : Ending) (w' : World) : Prop :=
  ∃ K' B', e = .returned (.tuple #[.agg (ranL K' (runTo pr cx ans (pr.length + 1) vm0).2).toArray, .int .i64 0]) ∧ w'.ownsRow 0 80 6 K' (runTo pr cx ans (pr.length + 1) vm0).2.calls.length (callsV (runTo pr cx ans (pr.length + 1) vm0).2.calls) ∧
    (∀ k, K'.ownBlock = some k → w.heap.size ≤ k) ∧ T B' (runTo pr cx ans (pr.length + 1) vm0).1 w' ∧ Kp B w w' ∧ ∀ k, B' k → B k ∨ w.heap.size ≤ k

set_option maxRecDepth 100000 in
set_option maxHeartbeats 4000000 in
theorem begun_yes {w : World} {ok : Nat → Prop} (cx : List UInt8) (CA : Option Addr) (cc : Nat) (hcx : By w ok CA cx.length cc cx) (hcl : cx.length ≤ 65536)
    (IA : Option Addr) (ic : Nat) (pr : List Ins8) (hin : Sl w ok 5 IA pr.length ic (pr.flatMap insCells)) (hpl : pr.length ≤ 1000) (hpm : ∀ i, i ∈ pr → i.May) (hc0 : checkN (cx.length : Int) (pr.map Ins8.z) = 0)
    (A : Option Addr) (ca : Nat) (ans : List Nat) (hans : Wd w ok A ans.length ca ans) (hal : ans.length ≤ 1048576) (hav : ∀ v, v ∈ ans → v < 4294967296)
    {tf : FuncId} {cap : Array Value} {T : (Nat → Prop) → List Mom → World → Prop} (ht : Tells tf cap T) {B : Nat → Prop} (htb : T B [] w) (hoB : ∀ k, ok k → ¬ B k) :
    Calls Try.prog 22 #[.agg #[.int .i64 (cx.length : Int), .slice IA pr.length ic], .slice CA cx.length cc, .slice A ans.length ca, .func (.func tf) #[] cap] w (BegunPost w T B pr cx ans) := by
  obtain ⟨W1, hW1⟩ : ∃ W1, W1 = (w.alloc (.cells #[.int .i64 (cx.length : Int), .slice IA pr.length ic] 24)).alloc (.cells Try.zeroCells34 34) := ⟨_, rfl⟩
  have G1 : Beg w (.int .i64 (cx.length : Int)) (.slice IA pr.length ic) W1 := by rw [hW1]; exact Beg.start w _ _ _ rfl
  have c0 := G1.c0
  have c1 := G1.c1
  have HG1 := Lib.hid G1; clear G1
  have HW1 := Lib.hid hW1; clear hW1
  have hck : ∀ W : World, Below w.heap.size w W → Calls Try.prog 28 #[.agg #[.int .i64 (cx.length : Int), .slice IA pr.length ic]] W fun e w' => e = .returned (.int .i64 0) ∧ Below W.heap.size W w' := fun W hW => by
    have := check_ok W (cx.length : Int) IA ic (pr.map Ins8.z) (ok := ok) (by rw [List.length_map, flat_z]; exact hin.move (Mv.of_below hW ok)) (by rw [List.length_map]; omega)
    rw [hc0, List.length_map] at this
    exact this
  have HCK := Lib.hid hck; clear hck hc0
  have hcln : ∀ W : World, Below w.heap.size w W → Calls Try.prog 31 #[.slice CA cx.length cc] W fun e w' => ∃ A' c', e = .returned (.slice A' cx.length c') ∧ w'.ownsRow W.heap.size 5 1 (.slice A' cx.length c') cx.length (bv cx) ∧ Below W.heap.size W w' := fun W hW =>
    cloneB W CA cx.length cc cx (Sl.move hcx (Mv.of_below hW ok)) (by omega)
  have HCL := Lib.hid hcln; clear hcln
  have HPM := Lib.hid hpm; clear hpm
  have HAV := Lib.hid hav; clear hav
  have HOB := Lib.hid hoB; clear hoB
  go_enter Try.func22, Try.ntmps22
  go_upto_region 1 with fail
  rw [← HW1.out]
  go_upto_region 3 with (go_at_call 28; (with_reducible refine (HCK.out _ HG1.out.b).mono ?_); rintro e W2 ⟨rfl, hb2⟩; have G2 := HG1.out.belowp hb2; have c0 := G2.c0; have c1 := G2.c1; have HG2 := Lib.hid G2; clear G2 hb2)
  clear c0 c1
  refine wp_region_noPanic ?_
  refine plan (.rd 0 (.rd 1 (.rd 3 (.rd 4 (.eff 2 (.rd 5 (.eff 6 (.rd 7 .done)))))))) [0, 1, 2, 3, 4, 5, 6, 7] (fun W => Beg w (.int .i64 (cx.length : Int)) (.slice IA pr.length ic) W) (by kernel_rfl) (by kernel_rfl) (fun _ _ _ _ _ h => h) HG2.out.drewp ?_
  refine pl_rd (.agg #[.int .i64 (cx.length : Int), .slice IA pr.length ic]) rfl rfl (fun W hS => ?_) (fun K hK => ?_)
  · have c0 := hS.c0
    have c1 := hS.c1
    simp [go_sem, c0, c1]
  go_simp
  refine hK _ ?_
  clear hK K
  repeat (refine pl_pure rfl (fun K hK => ?_); go_simp; refine hK _ ?_; clear hK K)
  refine pl_eff rfl rfl (fun K hK => ?_)
  go_simp
  (with_reducible refine (HCL.out _ HG2.out.drewp.b).mono ?_)
  rintro e W3 ⟨CA', cc', rfl, hown, hb3⟩
  have G3 := HG2.out.drewp.belowp hb3
  refine hK _ _ (fun _ => G3) ?_
  clear hK K
  have HO := Lib.hid hown; clear hown
  have HB3 := Lib.hid hb3; clear hb3
  refine pl_rd (.agg (run0 ⟨cx.length, .slice IA pr.length ic, .slice CA' cx.length cc', .slice A ans.length ca, .func (.func tf) #[] cap⟩)) rfl rfl (fun W hS => by kernel_rfl) (fun K hK => ?_)
  refine hK _ ?_
  clear hK K
  refine pl_eff rfl rfl (fun K hK => ?_)
  refine wp_value (w' := W3.alloc (.cells (run0 ⟨cx.length, .slice IA pr.length ic, .slice CA' cx.length cc', .slice A ans.length ca, .func (.func tf) #[] cap⟩) 95)) (.pointer (some ⟨W3.heap.size, 0, none⟩)) (by kernel_rfl) ?_
  have hvb := run0_blk W3 ⟨cx.length, .slice IA pr.length ic, .slice CA' cx.length cc', .slice A ans.length ca, .func (.func tf) #[] cap⟩
  have hb4 : Below W3.heap.size W3 (W3.alloc (.cells (run0 ⟨cx.length, .slice IA pr.length ic, .slice CA' cx.length cc', .slice A ans.length ca, .func (.func tf) #[] cap⟩) 95)) := (Below.refl _ _).alloc (Nat.le_refl _) _
  generalize hW4 : W3.alloc (.cells (run0 ⟨cx.length, .slice IA pr.length ic, .slice CA' cx.length cc', .slice A ans.length ca, .func (.func tf) #[] cap⟩) 95) = W4 at hvb hb4 ⊢
  clear hW4
  have G4 := G3.belowp hb4
  refine hK _ _ (fun _ => G4) ?_
  clear hK K
  repeat (refine pl_pure rfl (fun K hK => ?_); go_simp; refine hK _ ?_; clear hK K)
  refine pl_done ?_
  refine NoPanic.normal ?_
  have z4 := hb4.size
  have hb04 : Below w.heap.size w W4 := G4.b
  have hxz : w.heap.size + 2 ≤ W3.heap.size := G3.z
  have hlt := fun k hk => (HO.out.lt k hk)
  have hgoes : Calls Try.prog 32 #[.pointer (some ⟨W3.heap.size, 0, none⟩)] W4 fun e w' => e = .returned (.tuple #[]) ∧ ∃ K' B', VmS w' W3.heap.size ⟨cx.length, .slice IA pr.length ic, .slice CA' cx.length cc', .slice A ans.length ca, .func (.func tf) #[] cap⟩ K' (runTo pr cx ans (pr.length + 1) vm0).2 ∧ T B' (runTo pr cx ans (pr.length + 1) vm0).1 w' ∧ Kp (fun k => VmM W3.heap.size (.slice none 0 0) k ∨ B k) W4 w' ∧
      (∀ k, K'.ownBlock = some k → (Value.slice none 0 0).ownBlock = some k ∨ W4.heap.size ≤ k) ∧ (∀ k, B' k → B k ∨ W4.heap.size ≤ k) := by
    refine goes_ok (ok := fun k => (ok k ∧ k < w.heap.size) ∨ (w.heap.size ≤ k ∧ k < W3.heap.size)) (s := vm0) ⟨hvb, World.ownsRow_nil _ _ _ _, by simp [Value.ownBlock]⟩ ⟨fun _ => by simp [vm0], fun _ => by simp [vm0]⟩ ⟨rfl, rfl, rfl⟩ ht rfl (ht.keep htb (Kp.of_below hb04 No) (fun _ _ h => h)) (fun k hk hm => ?_) (fun k hk => ?_)
      CA' cc' cx rfl ?_ hcl A ca ans rfl ?_ hal HAV.out IA ic pr rfl ?_ hpl HPM.out
    · have := ht.lt htb k hk
      rcases hm with e | e
      · omega
      · simp [Value.ownBlock] at e
    · rcases hk with ⟨h1, h2⟩ | ⟨h1, h2⟩
      · refine ⟨by omega, fun hm => ?_, HOB.out k h1⟩
        rcases hm with e | e
        · omega
        · simp [Value.ownBlock] at e
      · refine ⟨by omega, fun hm => ?_, fun hb => by have := ht.lt htb k hb; omega⟩
        rcases hm with e | e
        · omega
        · simp [Value.ownBlock] at e
    · obtain ⟨A2, c2, he, hs⟩ := Sl.of_own (ok := fun k => (ok k ∧ k < w.heap.size) ∨ (w.heap.size ≤ k ∧ k < W3.heap.size)) HO.out (fun k hk hk2 => .inr ⟨by have h1 := (hlt k hk).1; have h2 := HG2.out.drewp.b.size; omega, hk2⟩)
      injection he with e1 e2 e3
      subst e1; subst e3
      exact hs.move (Mv.of_below hb4 _)
    · exact (hans.mono (fun k h1 h2 => .inl ⟨h2, h1⟩)).move (Mv.of_below hb04 _)
    · exact (hin.mono (fun k h1 h2 => .inl ⟨h2, h1⟩)).move (Mv.of_below hb04 _)
  have HGO := Lib.hid hgoes; clear hgoes hlt
  go_upto_region 5 with (go_at_call 32; (with_reducible refine HGO.out.mono ?_); rintro e W5 ⟨rfl, K', B', hv5, hT5, hk5, hK5, hB5⟩)
  have hkw5 : Kp B w W5 := (Kp.of_below hb04 B).trans hk5 (fun k hk hm => by
    rcases hm with (e | e) | e
    · omega
    · simp [Value.ownBlock] at e
    · exact e)
  have hBlt := ht.lt htb
  have z5 := hk5.size
  obtain ⟨FF, hF⟩ := G4.r
  have hF5 := hF.keep hk5 (fun hm => by
    rcases hm with (e | e) | e
    · omega
    · simp [Value.ownBlock] at e
    · have := hBlt _ e; omega)
  have hth := there_blk hF5
  obtain ⟨RL, hRL⟩ : ∃ RL, RL = ranL K' (runTo pr cx ans (pr.length + 1) vm0).2 := ⟨_, rfl⟩
  have hRs : RL.length = 69 := by rw [hRL]; exact ranL_length _ _
  have hR1 : RL.toArray.all (·.oneCell') = true := by
    rw [hRL]
    obtain ⟨a', c', e⟩ := own_shape hv5.row
    exact ranL_one _ (by rw [e]; rfl) _
  have hrg : W5.rangeAt W3.heap.size 25 RL := by rw [hRL]; exact hv5.b.ran
  have hi : (Try.prog.info? 34).map (·.size) = some RL.length := by rw [hRs]; exact info_ran
  rw [← hRs] at hth
  refine wp_region_list ?_
  refine wpList_value (w' := W5) (.pointer (some ⟨W3.heap.size, 0, none⟩)) rfl (by kernel_rfl) ?_
  refine wpList_value (w' := W5) (.pointer (some ⟨W3.heap.size, 0, none⟩)) rfl (by kernel_rfl) ?_
  refine wpList_value (w' := W5) (.pointer (some ⟨W3.heap.size, 25, none⟩)) rfl (by kernel_rfl) ?_
  refine wpList_load_mid rfl 34 (.tmp 33) rfl W3.heap.size 25 rfl RL _ hrg Try.underlying34 rfl hi ?_
  refine wpList_store_mid rfl 34 (.tmp 8) (.tmp 34) rfl (w.heap.size + 1) 0 RL.toArray rfl rfl hth hi hR1 ?_
  have hr6 := World.rangeAt_setCells_same W5 (w.heap.size + 1) 0 RL hth
  have hk6 : Kp (fun k => k = w.heap.size + 1) W5 (W5.setCells (w.heap.size + 1) 0 RL) := Kp.setCells (M := fun k => k = w.heap.size + 1) (.inl rfl) _ _ _ (Kp.refl _ _)
  have hkw6 : Kp B w (W5.setCells (w.heap.size + 1) 0 RL) := Kp.setCells (.inr (by omega)) _ _ _ hkw5
  show wpList _ _ _ _ _ (W5.setCells (w.heap.size + 1) 0 RL)
  clear hF hF5 hth
  generalize hW6 : W5.setCells (w.heap.size + 1) 0 RL = W6 at hr6 hk6 hkw6 ⊢
  have HW6 := Lib.hid hW6; clear hW6
  have hT6 := ht.keep hT5 hk6 (fun k hk e => by
    rcases hB5 k hk with h | h
    · have := hBlt k h; omega
    · omega)
  have hown6 := own_move hv5.row (fun k hk hlt => hk6.block k hlt (fun e => by
    rcases hK5 k hk with h | h
    · simp [Value.ownBlock] at h
    · omega))
  have hP : BegunPost w T B pr cx ans (.returned (.tuple #[.agg RL.toArray, .int .i64 0])) W6 := by
    refine ⟨K', B', by rw [hRL], hown6, fun k hk => ?_, hT6, hkw6, fun k hk => ?_⟩
    · rcases hK5 k hk with h | h
      · simp [Value.ownBlock] at h
      · omega
    · rcases hB5 k hk with h | h
      · exact .inl h
      · exact .inr (by omega)
  have HP := Lib.hid hP
  have HR6 := Lib.hid hr6
  have HI := Lib.hid hi
  clear hP hr6 hi hT6 hown6 hT5 hv5 hB5 hK5 hR1 hRs hRL hrg hk6 hkw6
  go_wp2
  exact bodyPost_ret (v := .tuple #[.agg RL.toArray, .int .i64 0]) (results_cell_range Try.results22 _ _ (w.heap.size + 1) 0 RL _ rfl HR6.out Try.underlying34 rfl HI.out _ rfl) rfl HP.out
end Go.Proofs.Ytpnkbpjhbmacaaa
