/- The document's run: a call. -/
import Derived.Test.YtpnkbpjhbmacaaaRv9
set_option linter.unusedVariables false
set_option linter.unusedSimpArgs false
namespace Go.Proofs.Ytpnkbpjhbmacaaa
open Go.RowKit

theorem stF_ext (K : Value) {s s' : Vm} (fin : Bool) (h1 : s'.at_ = s.at_) (h2 : ∀ i, s'.set i = s.set i) (h3 : ∀ i, s'.reg i = s.reg i) (h4 : s'.steps = s.steps ∧ s'.fault = s.fault ∧ s'.oat = s.oat ∧ s'.val = s.val) (h5 : s'.scr = s.scr) (j : Nat) : stF K s' fin j = stF K s fin j := by
  unfold stF
  rw [h1, h2, h3, h4.1, h4.2.1, h4.2.2.1, h4.2.2.2, h5]
theorem rowF_ext (N : Nat) {F G : Nat → Value} (h : ∀ j, j < N → F j = G j) : rowF N F = rowF N G := List.map_congr_left fun j hj => h j (List.mem_range.1 hj)
theorem stF_K (K K' : Value) {s s' : Vm} (fin : Bool) (h : ∀ j, stF K s' fin j = stF K s fin j) : ∀ j, j < 91 → (if j = 25 then K' else stF K s fin j) = stF K' s' fin j := by
  intro j _
  by_cases e : j = 25
  · subst e; rfl
  · rw [if_neg e, ← h j]
    unfold stF
    simp only [if_neg e]
theorem stF_clr (K : Value) (s : Vm) (fin : Bool) (m : Nat) (hm : m < 5) : ∀ j, j < 91 → (if j = 11 + (m + 1) then Value.int .i64 0 else if j = 1 + (m + 1) then Value.bool false else stF K (s.clr m) fin j) = stF K (s.clr (m + 1)) fin j := by
  intro j hj
  unfold stF
  simp only [Vm.clr]
  by_cases h1 : j = 11 + (m + 1)
  · subst h1
    rw [if_pos rfl, if_neg (by omega), if_neg (by omega), if_pos (by omega), if_pos (by omega)]; rfl
  · rw [if_neg h1]
    by_cases h2 : j = 1 + (m + 1)
    · subst h2
      rw [if_pos rfl, if_neg (by omega), if_pos (by omega), if_pos (by omega)]
    · rw [if_neg h2]
      by_cases h3 : j = 0
      · rw [if_pos h3, if_pos h3]
      · rw [if_neg h3, if_neg h3]
        by_cases h4 : j < 11
        · rw [if_pos h4, if_pos h4]
          by_cases h5 : 1 ≤ j - 1 ∧ j - 1 ≤ m
          · rw [if_pos h5, if_pos (by omega)]
          · rw [if_neg h5, if_neg (by omega)]
        · rw [if_neg h4, if_neg h4]
          by_cases h5 : j < 21
          · rw [if_pos h5, if_pos h5]
            by_cases h6 : 1 ≤ j - 11 ∧ j - 11 ≤ m
            · rw [if_pos h6, if_pos (by omega)]
            · rw [if_neg h6, if_neg (by omega)]
          · rw [if_neg h5, if_neg h5]
theorem stF_set (K : Value) (s : Vm) (fin : Bool) (n : Nat) (hn : n < 10) : stF K s fin (1 + n) = .bool (s.set n) := by
  unfold stF
  rw [if_neg (by omega), if_pos (by omega), show 1 + n - 1 = n from by omega]
theorem rec_skip (imm : Nat) (s : Vm) (m : Nat) (h : s.reg (m + 1) = 0) : ∀ j, j < 6 → recF imm s m j = recF imm s (m + 1) j := by
  intro j hj
  rw [← rec_succ imm s m j hj]
  by_cases e : j = 1 + m
  · subst e
    rw [if_pos rfl, h]
    unfold recF
    rw [if_neg (by omega), if_neg (by omega)]; rfl
  · rw [if_neg e]
structure CS3 (w : World) (F : Nat → Value) (G : Nat → Value) (W : World) : Prop where
  b : Below w.heap.size w W
  z : w.heap.size + 3 ≤ W.heap.size
  s : Blk W w.heap.size 83 91 F
  r : ∃ G, Blk W (w.heap.size + 1) 83 91 G
  c : Blk W (w.heap.size + 2) 80 6 G
theorem CS3.keep {w : World} {F G : Nat → Value} {W W1 : World} (h : CS3 w F G W) (hk : Kp No W W1) : CS3 w F G W1 :=
  ⟨((Kp.of_below h.b No).trans hk (fun _ _ e => e)).below, by have := hk.size; have := h.z; omega, h.s.keep hk (fun e => e), by obtain ⟨R, hR⟩ := h.r; exact ⟨R, hR.keep hk (fun e => e)⟩, h.c.keep hk (fun e => e)⟩
theorem CS3.more {w : World} {F G : Nat → Value} {W W1 : World} (h : CS3 w F G W) (hb : Below W.heap.size W W1) : CS3 w F G W1 := h.keep (Kp.of_below hb No)
theorem CS3.puts {w : World} {F G : Nat → Value} {W : World} (h : CS3 w F G W) (j : Nat) (v : Value) : CS3 w (fun i => if i = j then v else F i) G (W.setCell ⟨w.heap.size, j, none⟩ v) := by
  have hk : Kp (fun b => b = w.heap.size) W (W.setCell ⟨w.heap.size, j, none⟩ v) := (Kp.refl (fun b => b = w.heap.size) W).setCell (p := ⟨w.heap.size, j, none⟩) (.inl rfl) v
  refine ⟨h.b.setCell (by simp) _, by have := hk.size; have := h.z; omega, h.s.set j v, ?_, h.c.keep hk (by omega)⟩
  obtain ⟨G, hG⟩ := h.r
  exact ⟨G, hG.keep hk (by omega)⟩
theorem CS3.putc {w : World} {F G : Nat → Value} {W : World} (h : CS3 w F G W) (j : Nat) (v : Value) : CS3 w F (fun i => if i = j then v else G i) (W.setCell ⟨w.heap.size + 2, j, none⟩ v) := by
  have hk : Kp (fun b => b = w.heap.size + 2) W (W.setCell ⟨w.heap.size + 2, j, none⟩ v) := (Kp.refl (fun b => b = w.heap.size + 2) W).setCell (p := ⟨w.heap.size + 2, j, none⟩) (.inl rfl) v
  refine ⟨h.b.setCell (by simp) _, by have := hk.size; have := h.z; omega, h.s.keep hk (by omega), ?_, h.c.set j v⟩
  obtain ⟨G, hG⟩ := h.r
  exact ⟨G, hG.keep hk (by omega)⟩
theorem CS3.congr {w : World} {F F' G G' : Nat → Value} {W : World} (h : CS3 w F G W) (e : ∀ j, j < 91 → F j = F' j) (e2 : ∀ j, j < 6 → G j = G' j) : CS3 w F' G' W := ⟨h.b, h.z, h.s.congr e, h.r, h.c.congr e2⟩
theorem CS3.done {w : World} {F G : Nat → Value} {W : World} (h : CS3 w F G W) (cs : List Value) (hc : cs.length = 91) :
    W.there (w.heap.size + 1) 0 91 ∧ ∃ W3, Hid (W3 = W.setCells (w.heap.size + 1) 0 cs) ∧ Hid (W3.rangeAt (w.heap.size + 1) 0 cs) ∧ Hid (Kp (fun b => b = w.heap.size + 1) W W3) ∧ Hid (Below w.heap.size w W3) := by
  obtain ⟨R, hR⟩ := h.r
  exact ⟨there_blk hR, _, Lib.hid rfl, Lib.hid (World.rangeAt_setCells_same W (w.heap.size + 1) 0 cs (by rw [hc]; exact there_blk hR)), Lib.hid (Kp.setCells (M := fun b => b = w.heap.size + 1) (.inl rfl) _ _ _ (Kp.refl _ _)), Lib.hid (Kp.setCells (w := w) (b := w.heap.size + 1) (.inr (by omega)) _ _ _ (Kp.of_below h.b No)).below⟩
theorem CS3.start (w : World) (F : Nat → Value) (imm : Nat) (s : Vm) (cs : Array Value) (hcs : cs.size = 91) :
    CS3 w F (recF imm s 0) (((w.alloc (.cells (rowF 91 F).toArray 83)).alloc (.cells cs 83)).alloc (.cells #[.int .i64 (imm : Int), .int .u32 0, .int .u32 0, .int .u32 0, .int .u32 0, .int .u32 0] 80)) := by
  have h := St2.start w F cs hcs
  have hb : Below ((w.alloc (.cells (rowF 91 F).toArray 83)).alloc (.cells cs 83)).heap.size ((w.alloc (.cells (rowF 91 F).toArray 83)).alloc (.cells cs 83)) (((w.alloc (.cells (rowF 91 F).toArray 83)).alloc (.cells cs 83)).alloc (.cells #[.int .i64 (imm : Int), .int .u32 0, .int .u32 0, .int .u32 0, .int .u32 0, .int .u32 0] 80)) := (Below.refl _ _).alloc (Nat.le_refl _) _
  have h2 := h.more hb
  refine ⟨h2.b, by simp, h2.s, h2.r, ?_⟩
  have := Blk.new ((w.alloc (.cells (rowF 91 F).toArray 83)).alloc (.cells cs 83)) 80 #[.int .i64 (imm : Int), .int .u32 0, .int .u32 0, .int .u32 0, .int .u32 0, .int .u32 0] 6 rfl (recF imm s 0) (fun j hj => by
    have hc : j = 0 ∨ j = 1 ∨ j = 2 ∨ j = 3 ∨ j = 4 ∨ j = 5 := by omega
    rcases hc with rfl | rfl | rfl | rfl | rfl | rfl <;> rfl)
  simpa using this
theorem putr0_ok (w : World) (K : Value) (hK : K.oneCell' = true) (s : Vm) (fin : Bool) (v : Nat) :
    Calls Try.prog 34 #[.agg (stL K s fin).toArray, .int .i64 0, .int .i64 (v : Int)] w fun e w' => e = .returned (.agg (stL K (s.put 0 v) fin).toArray) ∧ Below w.heap.size w w' := putr_ok w K hK s fin 0 v (by omega)
theorem putr00_ok (w : World) (K : Value) (hK : K.oneCell' = true) (s : Vm) (fin : Bool) :
    Calls Try.prog 34 #[.agg (stL K s fin).toArray, .int .i64 0, .int .i64 0] w fun e w' => e = .returned (.agg (stL K (s.put 0 0) fin).toArray) ∧ Below w.heap.size w w' := putr_ok w K hK s fin 0 0 (by omega)
theorem call_fin2 (s : Vm) (imm v : Nat) (ans : List Nat) (hv : v = ans.getD s.calls.length 0) (K : Value) (fin : Bool) : stL K ((s.clr 5).put 0 v) fin = stL K (s.call imm ans) fin := by
  refine rowF_ext 91 fun j _ => stF_ext K (s' := (s.clr 5).put 0 v) (s := s.call imm ans) fin rfl (fun i => ?_) (fun i => ?_) ⟨rfl, rfl, rfl, rfl⟩ rfl j
  · simp only [Vm.call, Vm.put, Vm.clr, upd]
    by_cases h : i = 0
    · rw [if_pos h, if_pos h]
    · rw [if_neg h, if_neg h]
      by_cases h5 : i ≤ 5
      · rw [if_pos h5, if_pos (by omega)]
      · rw [if_neg h5, if_neg (by omega)]
  · simp only [Vm.call, Vm.put, Vm.clr, upd]
    by_cases h : i = 0
    · rw [if_pos h, if_pos h, hv]
    · rw [if_neg h, if_neg h]
      by_cases h5 : i ≤ 5
      · rw [if_pos h5, if_pos (by omega)]
      · rw [if_neg h5, if_neg (by omega)]
def CallPost (w : World) (s : Vm) (fin : Bool) (imm : Nat) (ans : List Nat) (e : Ending) (w' : World) : Prop :=
  ∃ A c, e = .returned (.agg (stL (.slice A (s.calls.length + 1) c) (s.call imm ans) fin).toArray) ∧ w'.ownsRow w.heap.size 80 6 (.slice A (s.calls.length + 1) c) (s.calls.length + 1) (callsV (s.call imm ans).calls) ∧ Below w.heap.size w w'
theorem call_row {w w8 w9 W10 : World} {s : Vm} {imm : Nat} {A : Option Addr} {c : Nat} (h : w8.ownsRow (w.heap.size + 3) 80 6 (.slice A (s.calls.length + 1) c) (s.calls.length + 1) (callsV (s.calls ++ [⟨imm, fun j => s.reg (j + 1)⟩]))) (hb : Below w8.heap.size w8 w9) (hk : Kp (fun b => b = w.heap.size + 1) w9 W10) :
    W10.ownsRow w.heap.size 80 6 (.slice A (s.calls.length + 1) c) (s.calls.length + 1) (callsV (s.calls ++ [⟨imm, fun j => s.reg (j + 1)⟩])) := by
  have h2 := own_move h (fun k _ hlt => hb.block k hlt)
  have h3 := own_move h2 (fun k hk' hlt => hk.block k hlt (fun e => by have := (h2.lt k hk').1; omega))
  exact own_base h3 (by omega)

theorem callsV_one (l : List CallR) : ∀ u ∈ callsV l, u.oneCell' = true := by
  intro u hu
  obtain ⟨c, _, hc⟩ := List.mem_flatMap.1 hu
  simp [callCells] at hc
  rcases hc with rfl | rfl | rfl | rfl | rfl | rfl <;> rfl

set_option maxRecDepth 100000 in
set_option maxHeartbeats 4000000 in
theorem callr_ok (w : World) (KA : Option Addr) (kc : Nat) (s : Vm) (fin : Bool) (imm : Nat) (hok : VmOk s) (hun : ∀ n, s.set n = false → s.reg n = 0) (hsl : Sl w Any 6 KA s.calls.length kc (callsV s.calls)) (hcl : s.calls.length ≤ 1000)
    (A : Option Addr) (ca : Nat) (ans : List Nat) {ok : Nat → Prop} (hans : Wd w ok A ans.length ca ans) (hal : ans.length ≤ 1048576) (hav : ∀ v, v ∈ ans → v < 4294967296) :
    Calls Try.prog 36 #[.agg (stL (.slice KA s.calls.length kc) s fin).toArray, .int .i64 (imm : Int), .slice A ans.length ca] w (CallPost w s fin imm ans) := by
  obtain ⟨L, hL⟩ : ∃ L, L = (stL (.slice KA s.calls.length kc) s fin).toArray := ⟨_, rfl⟩
  obtain ⟨W2, hW2⟩ : ∃ W2, W2 = ((w.alloc (.cells L 83)).alloc (.cells Try.zeroCells83 83)).alloc (.cells #[.int .i64 (imm : Int), .int .u32 0, .int .u32 0, .int .u32 0, .int .u32 0, .int .u32 0] 80) := ⟨_, rfl⟩
  have G2 : CS3 w (stF (.slice KA s.calls.length kc) (s.clr 0) fin) (recF imm s 0) W2 := by rw [clr_zero, hW2, hL]; exact CS3.start w _ imm s _ size_state
  rw [← hL]
  clear hL
  have HG2 := Lib.hid G2; clear G2
  have HW2 := Lib.hid hW2; clear hW2
  have HOK := Lib.hid hok; clear hok
  have HUN := Lib.hid hun; clear hun
  have HAV := Lib.hid hav; clear hav
  go_enter Try.func36, Try.ntmps36
  go_upto_region 2 with fail
  rw [← HW2.out]
  go_wp2
  go_loopw [8] (fun iv wr => ∃ m : Nat, m ≤ 5 ∧ iv = .int .i64 ((m : Int) + 1) ∧ CS3 w (stF (.slice KA s.calls.length kc) (s.clr m) fin) (recF imm s m) wr) (fun iv _ => 6 - (intOf iv).toNat)
  case atStart => exact ⟨0, by omega, rfl, HG2.out⟩
  case round =>
    obtain ⟨m, hm5, rfl, G⟩ := hrel
    by_cases hlt : m < 5
    · have hlt' : (m : Int) < 5 := by omega
      have e1 : (s.clr m).reg (m + 1) = s.reg (m + 1) := by simp only [Vm.clr]; rw [if_neg (by omega)]
      have e2 : (s.clr m).set (m + 1) = s.set (m + 1) := by simp only [Vm.clr]; rw [if_neg (by omega)]
      have c1 : wr.cell? ⟨w.heap.size, 1 + (m + 1), none⟩ = some (.bool (s.set (m + 1))) := by rw [← e2, ← stF_set (.slice KA s.calls.length kc) (s.clr m) fin (m + 1) (by omega)]; exact G.s.cell _ (by omega)
      have c2 : wr.cell? ⟨w.heap.size, 11 + (m + 1), none⟩ = some (.int .i64 (s.reg (m + 1) : Int)) := by rw [← e1, ← stF_reg (.slice KA s.calls.length kc) (s.clr m) fin (m + 1) (by omega)]; exact G.s.cell _ (by omega)
      have f1 := G.s.frozen (1 + (m + 1))
      have f2 := G.s.frozen (11 + (m + 1))
      have r1 := G.c.cell (1 + m) (by omega)
      have r2 := G.c.frozen (1 + m)
      have hwr : IntKind.u32.wrap (s.reg (m + 1) : Int) = (s.reg (m + 1) : Int) := by rw [wrapU32]; have := HOK.out.reg (m + 1); omega
      have hb10 : (m : Int) + 1 < 10 := by omega
      have hb11 : 0 ≤ (m : Int) + 1 := by omega
      clear e1 e2
      rcases hset : s.set (m + 1) with _ | _
      · have h0 := HUN.out (m + 1) hset
        rw [hset] at c1
        have GN := ((G.puts (1 + (m + 1)) (.bool false)).puts (11 + (m + 1)) (.int .i64 0)).congr (stF_clr (.slice KA s.calls.length kc) s fin m hlt) (rec_skip imm s m h0)
        have HGN := Lib.hid GN; clear GN h0 hset
        have HG := Lib.hid G; clear G
        go_wp2
        go_roundw
        case rel => exact ⟨m + 1, by omega, by simp, HGN.out⟩
        case measure => simp [intOf]; omega
      · rw [hset] at c1
        have GN := (((G.putc (1 + m) (.int .u32 (s.reg (m + 1) : Int))).puts (1 + (m + 1)) (.bool false)).puts (11 + (m + 1)) (.int .i64 0)).congr (stF_clr (.slice KA s.calls.length kc) s fin m hlt) (rec_succ imm s m)
        have HGN := Lib.hid GN; clear GN hset
        have HG := Lib.hid G; clear G
        go_wp2
        go_roundw
        case rel => exact ⟨m + 1, by omega, by simp, HGN.out⟩
        case measure => simp [intOf]; omega
    · have hlt' : ¬ (m : Int) < 5 := by omega
      obtain rfl : m = 5 := by omega
      have c25 : wr.cell? ⟨w.heap.size, 25, none⟩ = some (.slice KA s.calls.length kc) := G.s.cell 25 (by omega)
      by_cases hlc : s.calls.length < ans.length
      · have hlc' : (s.calls.length : Int) < ans.length := by omega
        obtain ⟨a, rfl, hoka, hal2, hca⟩ := hans.at_ (j := s.calls.length) (by omega)
        have hv : ans[s.calls.length] < 4294967296 := HAV.out _ (List.getElem_mem hlc)
        have hcell := hca s.calls.length (.int .u32 (ans[s.calls.length] : Int)) (by simp [hlc])
        have hcell3 : wr.cell? (a.add s.calls.length) = some (.int .u32 (ans[s.calls.length] : Int)) := (Kp.of_below G.b No).cell hcell (fun e => e)
        obtain ⟨v, hve⟩ : ∃ v, v = ans[s.calls.length] := ⟨_, rfl⟩
        rw [← hve] at hcell3 hv
        have hvd : v = ans.getD s.calls.length 0 := by rw [hve]; simp [List.getD, hlc]
        have HVD := Lib.hid hvd; clear hvd hve hcell
        have HCA := Lib.hid hca; clear hca
        have HSL4 := Lib.hid (hsl.move (Mv.of_below G.b Any))
        generalize hw4 : wr = w4 at *
        clear hw4
        have HG4 := Lib.hid G; clear G
        go_upto_region 11 with fail
        refine wp_region_noPanic ?_
        refine plan (.rd 0 (.rd 1 (.rd 2 (.rd 4 (.two 3 (.eff 5 (.eff 6 (.eff 7 (.eff 8 (.eff 9 .done))))) 5 (.eff 3 (.eff 6 (.eff 7 (.eff 8 (.eff 9 .done)))))))))) [0, 1, 2, 3, 4, 5, 6] (fun W => CS3 w (stF (.slice KA s.calls.length kc) (s.clr 5) fin) (recF imm s 5) W) (by kernel_rfl) (by kernel_rfl) (fun _ _ _ _ _ h => h) (HG4.out.more (Below.refl _ _).drew) ?_
        repeat (refine pl_pure rfl (fun K hK => ?_); go_simp; refine hK _ ?_; clear hK K)
        refine pl_rd (.slice KA s.calls.length kc) rfl rfl (fun W hS => ?_) (fun K hK => ?_)
        · have f0 : W.cell? ⟨w.heap.size, 25, none⟩ = some (.slice KA s.calls.length kc) := hS.s.cell 25 (by omega)
          simp [go_sem, f0]
        go_simp
        refine hK _ ?_
        clear hK K
        refine pl_rd (.agg #[.int .i64 (imm : Int), .int .u32 (s.reg 1 : Int), .int .u32 (s.reg 2 : Int), .int .u32 (s.reg 3 : Int), .int .u32 (s.reg 4 : Int), .int .u32 (s.reg 5 : Int)]) rfl rfl (fun W hS => ?_) (fun K hK => ?_)
        · have f0 := hS.c.cell 0 (by omega)
          have f1 := hS.c.cell 1 (by omega)
          have f2 := hS.c.cell 2 (by omega)
          have f3 := hS.c.cell 3 (by omega)
          have f4 := hS.c.cell 4 (by omega)
          have f5 := hS.c.cell 5 (by omega)
          simp [recF] at f0 f1 f2 f3 f4 f5
          simp [go_sem, f0, f1, f2, f3, f4, f5]
        go_simp
        refine hK _ ?_
        clear hK K
        have z4 := HG4.out.z
        refine pl_two (pl_op rfl rfl (fun K hK => ?_)) (pl_op rfl rfl (fun K hK => ?_))
        · refine wp_append_sl w4.drew (.const (.slice none 0 0)) (.tmp 52) 31 rfl (w.heap.size + 3) 80 _ 6 32 Try.underlying31 info_call rfl (by omega) (by omega) (.slice none 0 0) 0 [] rfl (World.ownsRow_nil _ _ _ _) KA s.calls.length kc (callsV s.calls) rfl HSL4.out.drew (callsV_one _) (by omega) z4 ?_
          intro v5 w5 hown5 hg5 hat5
          have hb5 : Below w4.heap.size w4 w5 := ((Kp.of_below ((Below.refl w4.heap.size w4).drew) No).grown hg5 (fun k hk => by simp [Value.ownBlock] at hk)).below
          rw [Nat.zero_add, List.nil_append] at hown5
          refine hK _ _ (fun _ => HG4.out.more hb5) ?_
          clear hK K
          refine pl_eff rfl rfl (fun K hK => ?_)
          go_simp
          obtain ⟨Y, hY⟩ : ∃ Y, Y = w5.alloc (.cells #[.int .i64 (imm : Int), .int .u32 (s.reg 1 : Int), .int .u32 (s.reg 2 : Int), .int .u32 (s.reg 3 : Int), .int .u32 (s.reg 4 : Int), .int .u32 (s.reg 5 : Int)] 80) := ⟨_, rfl⟩
          have hbY : Below w5.heap.size w5 Y := by rw [hY]; exact (Below.refl _ _).alloc (Nat.le_refl _) _
          have hsY : Sl Y Any 6 (some ⟨w5.heap.size, 0, none⟩) 1 1 (callCells ⟨imm, fun j => s.reg (j + 1)⟩) := by rw [hY]; exact Sl.lit w5 80 6 #[.int .i64 (imm : Int), .int .u32 (s.reg 1 : Int), .int .u32 (s.reg 2 : Int), .int .u32 (s.reg 3 : Int), .int .u32 (s.reg 4 : Int), .int .u32 (s.reg 5 : Int)] 1 (by simp [maxLen]) rfl
          have hownY := own_move hown5 (fun k _ hlt => hbY.block k hlt)
          rw [← hY]
          have hb4Y : Below w4.heap.size w4 Y := hb5.trans (hbY.mono hb5.size)
          refine hK _ _ (fun _ => HG4.out.more hb4Y) ?_
          clear hK K hY
          obtain ⟨K5, k5, rfl⟩ := own_shape hown5
          have zY : w4.heap.size ≤ Y.heap.size := hb4Y.size
          refine pl_eff rfl rfl (fun K hK => ?_)
          refine wp_append_sl Y (.tmp 53) (.tmp 55) 31 rfl (w.heap.size + 3) 80 _ 6 32 Try.underlying31 info_call rfl (by omega) (by omega) (.slice K5 s.calls.length k5) s.calls.length (callsV s.calls) rfl hownY (some ⟨w5.heap.size, 0, none⟩) 1 1 (callCells ⟨imm, fun j => s.reg (j + 1)⟩) rfl hsY (by intro u hu; simp [callCells] at hu; rcases hu with rfl | rfl | rfl | rfl | rfl | rfl <;> rfl) (by omega) (by omega) ?_
          intro v6 w6 hown6 hg6 hat6
          have hb6 : Below w4.heap.size w4 w6 := ((Kp.of_below hb4Y No).grown hg6 (fun k hk => by
            have h1 := (hown5.lt k hk).1
            rcases hat5 with e | e
            · rw [e] at hk; simp [Value.ownBlock] at hk
            · rw [e] at hk
              have : w4.drew.heap.size = k := by injection hk
              exact .inr (by have h2 : w4.drew.heap.size = w4.heap.size := rfl; omega))).below
          obtain ⟨KB, kb, rfl⟩ := own_shape hown6
          have G6 := HG4.out.more hb6
          have c6 : w6.cell? ⟨w.heap.size, 25, none⟩ = some (.slice KA s.calls.length kc) := G6.s.cell 25 (by omega)
          have f6 := G6.s.frozen 25
          refine hK _ _ (fun _ => G6) ?_
          clear hK K
          have G8 := (G6.puts 25 (.slice KB (s.calls.length + 1) kb)).congr (stF_K (.slice KA s.calls.length kc) (.slice KB (s.calls.length + 1) kb) fin (fun _ => rfl)) (fun _ _ => rfl)
          have hown8 : (w6.setCell ⟨w.heap.size, 25, none⟩ (.slice KB (s.calls.length + 1) kb)).ownsRow (w.heap.size + 3) 80 6 (.slice KB (s.calls.length + 1) kb) (s.calls.length + 1) (callsV (s.calls ++ [⟨imm, fun j => s.reg (j + 1)⟩])) := by
            rw [callsV_snoc]
            have h0 : w6.ownsRow (w.heap.size + 3) 80 6 (.slice KB (s.calls.length + 1) kb) (s.calls.length + 1) (callsV s.calls ++ (callCells ⟨imm, fun j => s.reg (j + 1)⟩)) := hown6
            refine own_move h0 (fun k hk hlt => ?_)
            exact ((Kp.refl (fun b => b = w.heap.size) w6).setCell (p := ⟨w.heap.size, 25, none⟩) (.inl rfl) _).block k hlt (fun e => by have := (h0.lt k hk).1; omega)
          clear hown6
          iterate 2 (refine pl_eff rfl rfl (fun K hK => ?_); go_simp; refine hK _ _ (fun h => by cases h) ?_; clear hK K)
          refine pl_eff rfl rfl (fun K hK => ?_)
          go_simp
          refine hK _ _ (fun h => by cases h) ?_
          clear hK K
          refine pl_done ?_
          refine NoPanic.normal ?_
          generalize hW8 : w6.setCell ⟨w.heap.size, 25, none⟩ (.slice KB (s.calls.length + 1) kb) = w8 at G8 hown8 ⊢
          clear hW8
          have HG8 := Lib.hid G8
          have HOWN := Lib.hid hown8
          clear G8 hown8 G6 c6 f6
          go_upto_region 12 with fail
          have HP := Lib.hid (fun W => putr0_ok W (.slice KB (s.calls.length + 1) kb) rfl (s.clr 5) fin v)
          refine wp_region_list ?_
          refine wpList_load_mid rfl 83 (.tmp 3) rfl w.heap.size 0 rfl (stL (.slice KB (s.calls.length + 1) kb) (s.clr 5) fin) _ HG8.out.s.range Try.underlying83 rfl (by rw [stL_length]; exact info_state) ?_
          go_wp2_with (first | (go_at_call 34; (with_reducible refine (HP.out _).mono ?_); rintro e w9 ⟨rfl, hb9⟩; have HB9 := Lib.hid hb9; clear hb9; have HG9 := Lib.hid (HG8.out.more HB9.out); obtain ⟨TH9, W10, HW10, HR10, HK10, HB10⟩ := HG9.out.done (stL (.slice KB (s.calls.length + 1) kb) ((s.clr 5).put 0 v) fin) (stL_length _ _ _); have HTH9 := Lib.hid TH9; clear TH9) | (refine wpList_store_mid rfl 83 (.tmp 6) (.tmp 61) rfl (w.heap.size + 1) 0 (stL (.slice KB (s.calls.length + 1) kb) ((s.clr 5).put 0 v) fin).toArray rfl rfl (by rw [stA_size]; exact HTH9.out) (by rw [stA_size]; exact info_state) (stL_one _ rfl _ _) ?_; rw [← HW10.out]))
          exact bodyPost_ret (v := .agg (stL (.slice KB (s.calls.length + 1) kb) ((s.clr 5).put 0 v) fin).toArray) (results_cell1_range Try.results36 _ _ (w.heap.size + 1) 0 _ _ rfl HR10.out Try.underlying83 rfl (by rw [stL_length]; exact info_state)) rfl ⟨KB, kb, by rw [call_fin2 s imm v ans HVD.out _ fin], call_row HOWN.out HB9.out HK10.out, HB10.out⟩
        · go_simp
          obtain ⟨Y, hY⟩ : ∃ Y, Y = w4.alloc (.cells #[.int .i64 (imm : Int), .int .u32 (s.reg 1 : Int), .int .u32 (s.reg 2 : Int), .int .u32 (s.reg 3 : Int), .int .u32 (s.reg 4 : Int), .int .u32 (s.reg 5 : Int)] 80) := ⟨_, rfl⟩
          have hbY : Below w4.heap.size w4 Y := by rw [hY]; exact (Below.refl _ _).alloc (Nat.le_refl _) _
          have hsY : Sl Y (fun k => k < Y.heap.size) 6 (some ⟨w4.heap.size, 0, none⟩) 1 1 (callCells ⟨imm, fun j => s.reg (j + 1)⟩) := by
            have h0 : Sl Y Any 6 (some ⟨w4.heap.size, 0, none⟩) 1 1 (callCells ⟨imm, fun j => s.reg (j + 1)⟩) := by rw [hY]; exact Sl.lit w4 80 6 #[.int .i64 (imm : Int), .int .u32 (s.reg 1 : Int), .int .u32 (s.reg 2 : Int), .int .u32 (s.reg 3 : Int), .int .u32 (s.reg 4 : Int), .int .u32 (s.reg 5 : Int)] 1 (by simp [maxLen]) rfl
            exact h0.mono (fun k hk _ => hk)
          rw [← hY]
          have hb4Y : Below w4.heap.size w4 Y.drew := hbY.drew
          refine hK _ _ (fun _ => HG4.out.more hb4Y) ?_
          clear hK K hY
          have zY : w4.heap.size ≤ Y.heap.size := hb4Y.size
          refine pl_eff rfl rfl (fun K hK => ?_)
          refine wp_append_sl Y.drew (.const (.slice none 0 0)) (.tmp 52) 31 rfl (w.heap.size + 3) 80 _ 6 32 Try.underlying31 info_call rfl (by omega) (by omega) (.slice none 0 0) 0 [] rfl (World.ownsRow_nil _ _ _ _) KA s.calls.length kc (callsV s.calls) rfl (HSL4.out.move (Mv.of_below hb4Y Any)) (callsV_one _) (by omega) (by have : Y.drew.heap.size = Y.heap.size := rfl; omega) ?_
          intro v5 w5 hown5 hg5 hat5
          have hbY5 : Below Y.drew.heap.size Y.drew w5 := ((Kp.of_below (Below.refl Y.drew.heap.size Y.drew) No).grown hg5 (fun k hk => by simp [Value.ownBlock] at hk)).below
          have hb5 : Below w4.heap.size w4 w5 := hb4Y.trans (hbY5.mono hb4Y.size)
          rw [Nat.zero_add, List.nil_append] at hown5
          refine hK _ _ (fun _ => HG4.out.more hb5) ?_
          clear hK K
          obtain ⟨K5, k5, rfl⟩ := own_shape hown5
          have z5 : w4.heap.size ≤ w5.heap.size := hb5.size
          have hsY5 : Sl w5 (fun k => k < Y.heap.size) 6 (some ⟨w4.heap.size, 0, none⟩) 1 1 (callCells ⟨imm, fun j => s.reg (j + 1)⟩) := hsY.drew.move (Mv.of_below hbY5 _)
          refine pl_eff rfl rfl (fun K hK => ?_)
          refine wp_append_sl w5 (.tmp 53) (.tmp 55) 31 rfl (w.heap.size + 3) 80 _ 6 32 Try.underlying31 info_call rfl (by omega) (by omega) (.slice K5 s.calls.length k5) s.calls.length (callsV s.calls) rfl hown5 (some ⟨w4.heap.size, 0, none⟩) 1 1 (callCells ⟨imm, fun j => s.reg (j + 1)⟩) rfl hsY5 (by intro u hu; simp [callCells] at hu; rcases hu with rfl | rfl | rfl | rfl | rfl | rfl <;> rfl) (by omega) (by omega) ?_
          intro v6 w6 hown6 hg6 hat6
          have hb6 : Below w4.heap.size w4 w6 := ((Kp.of_below hb5 No).grown hg6 (fun k hk => by
            rcases hat5 with e | e
            · rw [e] at hk; simp [Value.ownBlock] at hk
            · rw [e] at hk
              have : Y.drew.heap.size = k := by injection hk
              exact .inr (by have h2 : Y.drew.heap.size = Y.heap.size := rfl; omega))).below
          obtain ⟨KB, kb, rfl⟩ := own_shape hown6
          have G6 := HG4.out.more hb6
          have c6 : w6.cell? ⟨w.heap.size, 25, none⟩ = some (.slice KA s.calls.length kc) := G6.s.cell 25 (by omega)
          have f6 := G6.s.frozen 25
          refine hK _ _ (fun _ => G6) ?_
          clear hK K
          have G8 := (G6.puts 25 (.slice KB (s.calls.length + 1) kb)).congr (stF_K (.slice KA s.calls.length kc) (.slice KB (s.calls.length + 1) kb) fin (fun _ => rfl)) (fun _ _ => rfl)
          have hown8 : (w6.setCell ⟨w.heap.size, 25, none⟩ (.slice KB (s.calls.length + 1) kb)).ownsRow (w.heap.size + 3) 80 6 (.slice KB (s.calls.length + 1) kb) (s.calls.length + 1) (callsV (s.calls ++ [⟨imm, fun j => s.reg (j + 1)⟩])) := by
            rw [callsV_snoc]
            have h0 : w6.ownsRow (w.heap.size + 3) 80 6 (.slice KB (s.calls.length + 1) kb) (s.calls.length + 1) (callsV s.calls ++ (callCells ⟨imm, fun j => s.reg (j + 1)⟩)) := hown6
            refine own_move h0 (fun k hk hlt => ?_)
            exact ((Kp.refl (fun b => b = w.heap.size) w6).setCell (p := ⟨w.heap.size, 25, none⟩) (.inl rfl) _).block k hlt (fun e => by have := (h0.lt k hk).1; omega)
          clear hown6
          iterate 2 (refine pl_eff rfl rfl (fun K hK => ?_); go_simp; refine hK _ _ (fun h => by cases h) ?_; clear hK K)
          refine pl_eff rfl rfl (fun K hK => ?_)
          go_simp
          refine hK _ _ (fun h => by cases h) ?_
          clear hK K
          refine pl_done ?_
          refine NoPanic.normal ?_
          generalize hW8 : w6.setCell ⟨w.heap.size, 25, none⟩ (.slice KB (s.calls.length + 1) kb) = w8 at G8 hown8 ⊢
          clear hW8
          have HG8 := Lib.hid G8
          have HOWN := Lib.hid hown8
          clear G8 hown8 G6 c6 f6
          go_upto_region 12 with fail
          have HP := Lib.hid (fun W => putr0_ok W (.slice KB (s.calls.length + 1) kb) rfl (s.clr 5) fin v)
          refine wp_region_list ?_
          refine wpList_load_mid rfl 83 (.tmp 3) rfl w.heap.size 0 rfl (stL (.slice KB (s.calls.length + 1) kb) (s.clr 5) fin) _ HG8.out.s.range Try.underlying83 rfl (by rw [stL_length]; exact info_state) ?_
          go_wp2_with (first | (go_at_call 34; (with_reducible refine (HP.out _).mono ?_); rintro e w9 ⟨rfl, hb9⟩; have HB9 := Lib.hid hb9; clear hb9; have HG9 := Lib.hid (HG8.out.more HB9.out); obtain ⟨TH9, W10, HW10, HR10, HK10, HB10⟩ := HG9.out.done (stL (.slice KB (s.calls.length + 1) kb) ((s.clr 5).put 0 v) fin) (stL_length _ _ _); have HTH9 := Lib.hid TH9; clear TH9) | (refine wpList_store_mid rfl 83 (.tmp 6) (.tmp 61) rfl (w.heap.size + 1) 0 (stL (.slice KB (s.calls.length + 1) kb) ((s.clr 5).put 0 v) fin).toArray rfl rfl (by rw [stA_size]; exact HTH9.out) (by rw [stA_size]; exact info_state) (stL_one _ rfl _ _) ?_; rw [← HW10.out]))
          exact bodyPost_ret (v := .agg (stL (.slice KB (s.calls.length + 1) kb) ((s.clr 5).put 0 v) fin).toArray) (results_cell1_range Try.results36 _ _ (w.heap.size + 1) 0 _ _ rfl HR10.out Try.underlying83 rfl (by rw [stL_length]; exact info_state)) rfl ⟨KB, kb, by rw [call_fin2 s imm v ans HVD.out _ fin], call_row HOWN.out HB9.out HK10.out, HB10.out⟩
      · have hlc' : ¬ (s.calls.length : Int) < ans.length := by omega
        have hvd : 0 = ans.getD s.calls.length 0 := by rw [List.getD_eq_getElem?_getD, List.getElem?_eq_none (by omega)]; rfl
        have HVD := Lib.hid hvd; clear hvd
        have HSL4 := Lib.hid (hsl.move (Mv.of_below G.b Any))
        generalize hw4 : wr = w4 at *
        clear hw4
        have HG4 := Lib.hid G; clear G
        go_upto_region 11 with fail
        refine wp_region_noPanic ?_
        refine plan (.rd 0 (.rd 1 (.rd 2 (.rd 4 (.two 3 (.eff 5 (.eff 6 (.eff 7 (.eff 8 (.eff 9 .done))))) 5 (.eff 3 (.eff 6 (.eff 7 (.eff 8 (.eff 9 .done)))))))))) [0, 1, 2, 3, 4, 5, 6] (fun W => CS3 w (stF (.slice KA s.calls.length kc) (s.clr 5) fin) (recF imm s 5) W) (by kernel_rfl) (by kernel_rfl) (fun _ _ _ _ _ h => h) (HG4.out.more (Below.refl _ _).drew) ?_
        repeat (refine pl_pure rfl (fun K hK => ?_); go_simp; refine hK _ ?_; clear hK K)
        refine pl_rd (.slice KA s.calls.length kc) rfl rfl (fun W hS => ?_) (fun K hK => ?_)
        · have f0 : W.cell? ⟨w.heap.size, 25, none⟩ = some (.slice KA s.calls.length kc) := hS.s.cell 25 (by omega)
          simp [go_sem, f0]
        go_simp
        refine hK _ ?_
        clear hK K
        refine pl_rd (.agg #[.int .i64 (imm : Int), .int .u32 (s.reg 1 : Int), .int .u32 (s.reg 2 : Int), .int .u32 (s.reg 3 : Int), .int .u32 (s.reg 4 : Int), .int .u32 (s.reg 5 : Int)]) rfl rfl (fun W hS => ?_) (fun K hK => ?_)
        · have f0 := hS.c.cell 0 (by omega)
          have f1 := hS.c.cell 1 (by omega)
          have f2 := hS.c.cell 2 (by omega)
          have f3 := hS.c.cell 3 (by omega)
          have f4 := hS.c.cell 4 (by omega)
          have f5 := hS.c.cell 5 (by omega)
          simp [recF] at f0 f1 f2 f3 f4 f5
          simp [go_sem, f0, f1, f2, f3, f4, f5]
        go_simp
        refine hK _ ?_
        clear hK K
        have z4 := HG4.out.z
        refine pl_two (pl_op rfl rfl (fun K hK => ?_)) (pl_op rfl rfl (fun K hK => ?_))
        · refine wp_append_sl w4.drew (.const (.slice none 0 0)) (.tmp 52) 31 rfl (w.heap.size + 3) 80 _ 6 32 Try.underlying31 info_call rfl (by omega) (by omega) (.slice none 0 0) 0 [] rfl (World.ownsRow_nil _ _ _ _) KA s.calls.length kc (callsV s.calls) rfl HSL4.out.drew (callsV_one _) (by omega) z4 ?_
          intro v5 w5 hown5 hg5 hat5
          have hb5 : Below w4.heap.size w4 w5 := ((Kp.of_below ((Below.refl w4.heap.size w4).drew) No).grown hg5 (fun k hk => by simp [Value.ownBlock] at hk)).below
          rw [Nat.zero_add, List.nil_append] at hown5
          refine hK _ _ (fun _ => HG4.out.more hb5) ?_
          clear hK K
          refine pl_eff rfl rfl (fun K hK => ?_)
          go_simp
          obtain ⟨Y, hY⟩ : ∃ Y, Y = w5.alloc (.cells #[.int .i64 (imm : Int), .int .u32 (s.reg 1 : Int), .int .u32 (s.reg 2 : Int), .int .u32 (s.reg 3 : Int), .int .u32 (s.reg 4 : Int), .int .u32 (s.reg 5 : Int)] 80) := ⟨_, rfl⟩
          have hbY : Below w5.heap.size w5 Y := by rw [hY]; exact (Below.refl _ _).alloc (Nat.le_refl _) _
          have hsY : Sl Y Any 6 (some ⟨w5.heap.size, 0, none⟩) 1 1 (callCells ⟨imm, fun j => s.reg (j + 1)⟩) := by rw [hY]; exact Sl.lit w5 80 6 #[.int .i64 (imm : Int), .int .u32 (s.reg 1 : Int), .int .u32 (s.reg 2 : Int), .int .u32 (s.reg 3 : Int), .int .u32 (s.reg 4 : Int), .int .u32 (s.reg 5 : Int)] 1 (by simp [maxLen]) rfl
          have hownY := own_move hown5 (fun k _ hlt => hbY.block k hlt)
          rw [← hY]
          have hb4Y : Below w4.heap.size w4 Y := hb5.trans (hbY.mono hb5.size)
          refine hK _ _ (fun _ => HG4.out.more hb4Y) ?_
          clear hK K hY
          obtain ⟨K5, k5, rfl⟩ := own_shape hown5
          have zY : w4.heap.size ≤ Y.heap.size := hb4Y.size
          refine pl_eff rfl rfl (fun K hK => ?_)
          refine wp_append_sl Y (.tmp 53) (.tmp 55) 31 rfl (w.heap.size + 3) 80 _ 6 32 Try.underlying31 info_call rfl (by omega) (by omega) (.slice K5 s.calls.length k5) s.calls.length (callsV s.calls) rfl hownY (some ⟨w5.heap.size, 0, none⟩) 1 1 (callCells ⟨imm, fun j => s.reg (j + 1)⟩) rfl hsY (by intro u hu; simp [callCells] at hu; rcases hu with rfl | rfl | rfl | rfl | rfl | rfl <;> rfl) (by omega) (by omega) ?_
          intro v6 w6 hown6 hg6 hat6
          have hb6 : Below w4.heap.size w4 w6 := ((Kp.of_below hb4Y No).grown hg6 (fun k hk => by
            have h1 := (hown5.lt k hk).1
            rcases hat5 with e | e
            · rw [e] at hk; simp [Value.ownBlock] at hk
            · rw [e] at hk
              have : w4.drew.heap.size = k := by injection hk
              exact .inr (by have h2 : w4.drew.heap.size = w4.heap.size := rfl; omega))).below
          obtain ⟨KB, kb, rfl⟩ := own_shape hown6
          have G6 := HG4.out.more hb6
          have c6 : w6.cell? ⟨w.heap.size, 25, none⟩ = some (.slice KA s.calls.length kc) := G6.s.cell 25 (by omega)
          have f6 := G6.s.frozen 25
          refine hK _ _ (fun _ => G6) ?_
          clear hK K
          have G8 := (G6.puts 25 (.slice KB (s.calls.length + 1) kb)).congr (stF_K (.slice KA s.calls.length kc) (.slice KB (s.calls.length + 1) kb) fin (fun _ => rfl)) (fun _ _ => rfl)
          have hown8 : (w6.setCell ⟨w.heap.size, 25, none⟩ (.slice KB (s.calls.length + 1) kb)).ownsRow (w.heap.size + 3) 80 6 (.slice KB (s.calls.length + 1) kb) (s.calls.length + 1) (callsV (s.calls ++ [⟨imm, fun j => s.reg (j + 1)⟩])) := by
            rw [callsV_snoc]
            have h0 : w6.ownsRow (w.heap.size + 3) 80 6 (.slice KB (s.calls.length + 1) kb) (s.calls.length + 1) (callsV s.calls ++ (callCells ⟨imm, fun j => s.reg (j + 1)⟩)) := hown6
            refine own_move h0 (fun k hk hlt => ?_)
            exact ((Kp.refl (fun b => b = w.heap.size) w6).setCell (p := ⟨w.heap.size, 25, none⟩) (.inl rfl) _).block k hlt (fun e => by have := (h0.lt k hk).1; omega)
          clear hown6
          iterate 2 (refine pl_eff rfl rfl (fun K hK => ?_); go_simp; refine hK _ _ (fun h => by cases h) ?_; clear hK K)
          refine pl_eff rfl rfl (fun K hK => ?_)
          go_simp
          refine hK _ _ (fun h => by cases h) ?_
          clear hK K
          refine pl_done ?_
          refine NoPanic.normal ?_
          generalize hW8 : w6.setCell ⟨w.heap.size, 25, none⟩ (.slice KB (s.calls.length + 1) kb) = w8 at G8 hown8 ⊢
          clear hW8
          have HG8 := Lib.hid G8
          have HOWN := Lib.hid hown8
          clear G8 hown8 G6 c6 f6
          go_upto_region 12 with fail
          have HP := Lib.hid (fun W => putr00_ok W (.slice KB (s.calls.length + 1) kb) rfl (s.clr 5) fin)
          refine wp_region_list ?_
          refine wpList_load_mid rfl 83 (.tmp 3) rfl w.heap.size 0 rfl (stL (.slice KB (s.calls.length + 1) kb) (s.clr 5) fin) _ HG8.out.s.range Try.underlying83 rfl (by rw [stL_length]; exact info_state) ?_
          go_wp2_with (first | (go_at_call 34; (with_reducible refine (HP.out _).mono ?_); rintro e w9 ⟨rfl, hb9⟩; have HB9 := Lib.hid hb9; clear hb9; have HG9 := Lib.hid (HG8.out.more HB9.out); obtain ⟨TH9, W10, HW10, HR10, HK10, HB10⟩ := HG9.out.done (stL (.slice KB (s.calls.length + 1) kb) ((s.clr 5).put 0 0) fin) (stL_length _ _ _); have HTH9 := Lib.hid TH9; clear TH9) | (refine wpList_store_mid rfl 83 (.tmp 6) (.tmp 61) rfl (w.heap.size + 1) 0 (stL (.slice KB (s.calls.length + 1) kb) ((s.clr 5).put 0 0) fin).toArray rfl rfl (by rw [stA_size]; exact HTH9.out) (by rw [stA_size]; exact info_state) (stL_one _ rfl _ _) ?_; rw [← HW10.out]))
          exact bodyPost_ret (v := .agg (stL (.slice KB (s.calls.length + 1) kb) ((s.clr 5).put 0 0) fin).toArray) (results_cell1_range Try.results36 _ _ (w.heap.size + 1) 0 _ _ rfl HR10.out Try.underlying83 rfl (by rw [stL_length]; exact info_state)) rfl ⟨KB, kb, by rw [call_fin2 s imm 0 ans HVD.out _ fin], call_row HOWN.out HB9.out HK10.out, HB10.out⟩
        · go_simp
          obtain ⟨Y, hY⟩ : ∃ Y, Y = w4.alloc (.cells #[.int .i64 (imm : Int), .int .u32 (s.reg 1 : Int), .int .u32 (s.reg 2 : Int), .int .u32 (s.reg 3 : Int), .int .u32 (s.reg 4 : Int), .int .u32 (s.reg 5 : Int)] 80) := ⟨_, rfl⟩
          have hbY : Below w4.heap.size w4 Y := by rw [hY]; exact (Below.refl _ _).alloc (Nat.le_refl _) _
          have hsY : Sl Y (fun k => k < Y.heap.size) 6 (some ⟨w4.heap.size, 0, none⟩) 1 1 (callCells ⟨imm, fun j => s.reg (j + 1)⟩) := by
            have h0 : Sl Y Any 6 (some ⟨w4.heap.size, 0, none⟩) 1 1 (callCells ⟨imm, fun j => s.reg (j + 1)⟩) := by rw [hY]; exact Sl.lit w4 80 6 #[.int .i64 (imm : Int), .int .u32 (s.reg 1 : Int), .int .u32 (s.reg 2 : Int), .int .u32 (s.reg 3 : Int), .int .u32 (s.reg 4 : Int), .int .u32 (s.reg 5 : Int)] 1 (by simp [maxLen]) rfl
            exact h0.mono (fun k hk _ => hk)
          rw [← hY]
          have hb4Y : Below w4.heap.size w4 Y.drew := hbY.drew
          refine hK _ _ (fun _ => HG4.out.more hb4Y) ?_
          clear hK K hY
          have zY : w4.heap.size ≤ Y.heap.size := hb4Y.size
          refine pl_eff rfl rfl (fun K hK => ?_)
          refine wp_append_sl Y.drew (.const (.slice none 0 0)) (.tmp 52) 31 rfl (w.heap.size + 3) 80 _ 6 32 Try.underlying31 info_call rfl (by omega) (by omega) (.slice none 0 0) 0 [] rfl (World.ownsRow_nil _ _ _ _) KA s.calls.length kc (callsV s.calls) rfl (HSL4.out.move (Mv.of_below hb4Y Any)) (callsV_one _) (by omega) (by have : Y.drew.heap.size = Y.heap.size := rfl; omega) ?_
          intro v5 w5 hown5 hg5 hat5
          have hbY5 : Below Y.drew.heap.size Y.drew w5 := ((Kp.of_below (Below.refl Y.drew.heap.size Y.drew) No).grown hg5 (fun k hk => by simp [Value.ownBlock] at hk)).below
          have hb5 : Below w4.heap.size w4 w5 := hb4Y.trans (hbY5.mono hb4Y.size)
          rw [Nat.zero_add, List.nil_append] at hown5
          refine hK _ _ (fun _ => HG4.out.more hb5) ?_
          clear hK K
          obtain ⟨K5, k5, rfl⟩ := own_shape hown5
          have z5 : w4.heap.size ≤ w5.heap.size := hb5.size
          have hsY5 : Sl w5 (fun k => k < Y.heap.size) 6 (some ⟨w4.heap.size, 0, none⟩) 1 1 (callCells ⟨imm, fun j => s.reg (j + 1)⟩) := hsY.drew.move (Mv.of_below hbY5 _)
          refine pl_eff rfl rfl (fun K hK => ?_)
          refine wp_append_sl w5 (.tmp 53) (.tmp 55) 31 rfl (w.heap.size + 3) 80 _ 6 32 Try.underlying31 info_call rfl (by omega) (by omega) (.slice K5 s.calls.length k5) s.calls.length (callsV s.calls) rfl hown5 (some ⟨w4.heap.size, 0, none⟩) 1 1 (callCells ⟨imm, fun j => s.reg (j + 1)⟩) rfl hsY5 (by intro u hu; simp [callCells] at hu; rcases hu with rfl | rfl | rfl | rfl | rfl | rfl <;> rfl) (by omega) (by omega) ?_
          intro v6 w6 hown6 hg6 hat6
          have hb6 : Below w4.heap.size w4 w6 := ((Kp.of_below hb5 No).grown hg6 (fun k hk => by
            rcases hat5 with e | e
            · rw [e] at hk; simp [Value.ownBlock] at hk
            · rw [e] at hk
              have : Y.drew.heap.size = k := by injection hk
              exact .inr (by have h2 : Y.drew.heap.size = Y.heap.size := rfl; omega))).below
          obtain ⟨KB, kb, rfl⟩ := own_shape hown6
          have G6 := HG4.out.more hb6
          have c6 : w6.cell? ⟨w.heap.size, 25, none⟩ = some (.slice KA s.calls.length kc) := G6.s.cell 25 (by omega)
          have f6 := G6.s.frozen 25
          refine hK _ _ (fun _ => G6) ?_
          clear hK K
          have G8 := (G6.puts 25 (.slice KB (s.calls.length + 1) kb)).congr (stF_K (.slice KA s.calls.length kc) (.slice KB (s.calls.length + 1) kb) fin (fun _ => rfl)) (fun _ _ => rfl)
          have hown8 : (w6.setCell ⟨w.heap.size, 25, none⟩ (.slice KB (s.calls.length + 1) kb)).ownsRow (w.heap.size + 3) 80 6 (.slice KB (s.calls.length + 1) kb) (s.calls.length + 1) (callsV (s.calls ++ [⟨imm, fun j => s.reg (j + 1)⟩])) := by
            rw [callsV_snoc]
            have h0 : w6.ownsRow (w.heap.size + 3) 80 6 (.slice KB (s.calls.length + 1) kb) (s.calls.length + 1) (callsV s.calls ++ (callCells ⟨imm, fun j => s.reg (j + 1)⟩)) := hown6
            refine own_move h0 (fun k hk hlt => ?_)
            exact ((Kp.refl (fun b => b = w.heap.size) w6).setCell (p := ⟨w.heap.size, 25, none⟩) (.inl rfl) _).block k hlt (fun e => by have := (h0.lt k hk).1; omega)
          clear hown6
          iterate 2 (refine pl_eff rfl rfl (fun K hK => ?_); go_simp; refine hK _ _ (fun h => by cases h) ?_; clear hK K)
          refine pl_eff rfl rfl (fun K hK => ?_)
          go_simp
          refine hK _ _ (fun h => by cases h) ?_
          clear hK K
          refine pl_done ?_
          refine NoPanic.normal ?_
          generalize hW8 : w6.setCell ⟨w.heap.size, 25, none⟩ (.slice KB (s.calls.length + 1) kb) = w8 at G8 hown8 ⊢
          clear hW8
          have HG8 := Lib.hid G8
          have HOWN := Lib.hid hown8
          clear G8 hown8 G6 c6 f6
          go_upto_region 12 with fail
          have HP := Lib.hid (fun W => putr00_ok W (.slice KB (s.calls.length + 1) kb) rfl (s.clr 5) fin)
          refine wp_region_list ?_
          refine wpList_load_mid rfl 83 (.tmp 3) rfl w.heap.size 0 rfl (stL (.slice KB (s.calls.length + 1) kb) (s.clr 5) fin) _ HG8.out.s.range Try.underlying83 rfl (by rw [stL_length]; exact info_state) ?_
          go_wp2_with (first | (go_at_call 34; (with_reducible refine (HP.out _).mono ?_); rintro e w9 ⟨rfl, hb9⟩; have HB9 := Lib.hid hb9; clear hb9; have HG9 := Lib.hid (HG8.out.more HB9.out); obtain ⟨TH9, W10, HW10, HR10, HK10, HB10⟩ := HG9.out.done (stL (.slice KB (s.calls.length + 1) kb) ((s.clr 5).put 0 0) fin) (stL_length _ _ _); have HTH9 := Lib.hid TH9; clear TH9) | (refine wpList_store_mid rfl 83 (.tmp 6) (.tmp 61) rfl (w.heap.size + 1) 0 (stL (.slice KB (s.calls.length + 1) kb) ((s.clr 5).put 0 0) fin).toArray rfl rfl (by rw [stA_size]; exact HTH9.out) (by rw [stA_size]; exact info_state) (stL_one _ rfl _ _) ?_; rw [← HW10.out]))
          exact bodyPost_ret (v := .agg (stL (.slice KB (s.calls.length + 1) kb) ((s.clr 5).put 0 0) fin).toArray) (results_cell1_range Try.results36 _ _ (w.heap.size + 1) 0 _ _ rfl HR10.out Try.underlying83 rfl (by rw [stL_length]; exact info_state)) rfl ⟨KB, kb, by rw [call_fin2 s imm 0 ans HVD.out _ fin], call_row HOWN.out HB9.out HK10.out, HB10.out⟩

end Go.Proofs.Ytpnkbpjhbmacaaa
