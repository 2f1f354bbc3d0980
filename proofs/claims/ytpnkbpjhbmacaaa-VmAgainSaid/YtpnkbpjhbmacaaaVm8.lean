/- The VM: who is told. -/
import Derived.Test.YtpnkbpjhbmacaaaVm7
import Derived.Deep.WholeRow
set_option linter.unusedVariables false
set_option linter.unusedSimpArgs false
namespace Go.Proofs.Ytpnkbpjhbmacaaa
open Go.RowKit

structure Mom where
  at_ : Nat
  set : Nat → Bool
  reg : Nat → Nat
def Vm.mom (s : Vm) : Mom := ⟨s.at_, s.set, s.reg⟩
def momCells (m : Mom) : List Value := [.int .i64 (m.at_ : Int), .bool (m.set 0), .bool (m.set 1), .bool (m.set 2), .bool (m.set 3), .bool (m.set 4), .bool (m.set 5), .bool (m.set 6), .bool (m.set 7), .bool (m.set 8), .bool (m.set 9), .int .u32 (m.reg 0 : Int), .int .u32 (m.reg 1 : Int), .int .u32 (m.reg 2 : Int), .int .u32 (m.reg 3 : Int), .int .u32 (m.reg 4 : Int), .int .u32 (m.reg 5 : Int), .int .u32 (m.reg 6 : Int), .int .u32 (m.reg 7 : Int), .int .u32 (m.reg 8 : Int), .int .u32 (m.reg 9 : Int)]
def momV (m : Mom) : Value := .agg #[.int .i64 (m.at_ : Int), .bool (m.set 0), .bool (m.set 1), .bool (m.set 2), .bool (m.set 3), .bool (m.set 4), .bool (m.set 5), .bool (m.set 6), .bool (m.set 7), .bool (m.set 8), .bool (m.set 9), .int .u32 (m.reg 0 : Int), .int .u32 (m.reg 1 : Int), .int .u32 (m.reg 2 : Int), .int .u32 (m.reg 3 : Int), .int .u32 (m.reg 4 : Int), .int .u32 (m.reg 5 : Int), .int .u32 (m.reg 6 : Int), .int .u32 (m.reg 7 : Int), .int .u32 (m.reg 8 : Int), .int .u32 (m.reg 9 : Int)]
theorem info_mom : (Try.prog.info? 70).map (fun i => (i.zero, i.size, i.bytes)) = some (some (.agg #[.int .i64 0, .bool false, .bool false, .bool false, .bool false, .bool false, .bool false, .bool false, .bool false, .bool false, .bool false, .int .u32 0, .int .u32 0, .int .u32 0, .int .u32 0, .int .u32 0, .int .u32 0, .int .u32 0, .int .u32 0, .int .u32 0, .int .u32 0]), 21, 64) := by kernel_rfl
theorem wpList_value {ops : Array Oper} {rest : List Oper} {o : Oper} {a : Act} {w w' : World} {Q : Exit → Act → World → Prop} (v : Value) (hgd : o.guard = none) (h : (execOp a.eval o).run Try.prog w = .ok (.value v) w')
    (hk : wpList Try.prog ops Q rest (a.put o.dst v) w') : wpList Try.prog ops Q (o :: rest) a w :=
  wpList_plain hgd fun _ hK => by unfold Oper.wp; rw [h]; exact hK _ _ hk
theorem bs_mom (m : Mom) (w : World) : (Instr.buildSlice 40 1 #[(0, momV m)]).run Try.prog w = .ok (.slice (some ⟨w.heap.size, 0, none⟩) 1 1) (w.alloc (.cells #[.int .i64 (m.at_ : Int), .bool (m.set 0), .bool (m.set 1), .bool (m.set 2), .bool (m.set 3), .bool (m.set 4), .bool (m.set 5), .bool (m.set 6), .bool (m.set 7), .bool (m.set 8), .bool (m.set 9), .int .u32 (m.reg 0 : Int), .int .u32 (m.reg 1 : Int), .int .u32 (m.reg 2 : Int), .int .u32 (m.reg 3 : Int), .int .u32 (m.reg 4 : Int), .int .u32 (m.reg 5 : Int), .int .u32 (m.reg 6 : Int), .int .u32 (m.reg 7 : Int), .int .u32 (m.reg 8 : Int), .int .u32 (m.reg 9 : Int)] 70)) := by kernel_rfl
theorem size_mom : (Try.prog.info? 70).map (·.size) = some 21 := by kernel_rfl
theorem mom_one (m : Mom) : ∀ u ∈ momCells m, u.oneCell' = true := by
  intro u hu
  simp only [momCells, List.mem_cons, List.not_mem_nil, or_false] at hu
  rcases hu with rfl | rfl | rfl | rfl | rfl | rfl | rfl | rfl | rfl | rfl | rfl | rfl | rfl | rfl | rfl | rfl | rfl | rfl | rfl | rfl | rfl <;> rfl

/-- One that is told: it keeps the moments ms in the blocks B. -/
structure Tells (tf : FuncId) (cap : Array Value) (T : (Nat → Prop) → List Mom → World → Prop) : Prop where
  enter : ∀ (args : Array Value) (w : World), (callFunc tf args).run Try.prog w = .ok (.enter tf args) w
  keep : ∀ {B : Nat → Prop} {ms : List Mom} {w w1 : World} {M : Nat → Prop}, T B ms w → Kp M w w1 → (∀ k, B k → ¬ M k) → T B ms w1
  lt : ∀ {B : Nat → Prop} {ms : List Mom} {w : World}, T B ms w → ∀ k, B k → k < w.heap.size
  call : ∀ {B : Nat → Prop} {ms : List Mom} {w : World} (m : Mom), T B ms w → ms.length ≤ 10000 →
    Calls Try.prog tf (#[momV m] ++ cap) w fun e w' => e = .returned (.tuple #[]) ∧ ∃ B', T B' (ms ++ [m]) w' ∧ Kp B w w' ∧ ∀ k, B' k → B k ∨ w.heap.size ≤ k

theorem run1_ok (w : World) (m : Mom) : Calls Try.prog 23 #[momV m] w fun e w' => e = .returned (.tuple #[]) ∧ Below w.heap.size w w' := by
  unfold momV
  go_enter Try.func23, Try.ntmps23
  go_wp2
  go_end0
  exact ⟨rfl, (Below.refl _ _).alloc (Nat.le_refl _) _⟩

/-- Nobody listens: what was told is kept by nobody. -/
theorem tells_run : Tells 23 #[] (fun B _ _ => ∀ k, ¬ B k) where
  enter := fun args w => by go_simp
  keep := fun h _ _ => h
  lt := fun h k hk => absurd hk (h k)
  call := fun {B} {ms} {w} m h _ => (run1_ok w m).mono fun e w' ⟨h1, h2⟩ => ⟨h1, No, fun _ h => h, Kp.of_below h2 B, fun _ h => h.elim⟩

structure Trc (v : Nat) (B : Nat → Prop) (ms : List Mom) (w : World) : Prop where
  ex : ∃ K, Blk w v 40 1 (fun _ => K) ∧ w.ownsRow 0 70 21 K ms.length (ms.flatMap momCells) ∧ K.ownBlock ≠ some v ∧ ∀ k, B k ↔ (k = v ∨ K.ownBlock = some k)

set_option maxRecDepth 100000 in
set_option maxHeartbeats 1000000 in
theorem trace1_ok {v : Nat} {B : Nat → Prop} {ms : List Mom} {w : World} (m : Mom) (h : Trc v B ms w) (hl : ms.length ≤ 10000) :
    Calls Try.prog 24 #[momV m, .pointer (some ⟨v, 0, none⟩)] w fun e w' => e = .returned (.tuple #[]) ∧ ∃ B', Trc v B' (ms ++ [m]) w' ∧ Kp B w w' ∧ ∀ k, B' k → B k ∨ w.heap.size ≤ k := by
  obtain ⟨K, hv, hown, hKv, hB⟩ := h.ex
  have hvl : v < w.heap.size := hv.lt
  obtain ⟨KA, kc, rfl⟩ := own_shape hown
  obtain ⟨W1, hW1⟩ : ∃ W1, W1 = w.alloc (.cells #[.int .i64 (m.at_ : Int), .bool (m.set 0), .bool (m.set 1), .bool (m.set 2), .bool (m.set 3), .bool (m.set 4), .bool (m.set 5), .bool (m.set 6), .bool (m.set 7), .bool (m.set 8), .bool (m.set 9), .int .u32 (m.reg 0 : Int), .int .u32 (m.reg 1 : Int), .int .u32 (m.reg 2 : Int), .int .u32 (m.reg 3 : Int), .int .u32 (m.reg 4 : Int), .int .u32 (m.reg 5 : Int), .int .u32 (m.reg 6 : Int), .int .u32 (m.reg 7 : Int), .int .u32 (m.reg 8 : Int), .int .u32 (m.reg 9 : Int)] 70) := ⟨_, rfl⟩
  have hb1 : Below w.heap.size w W1 := by rw [hW1]; exact (Below.refl _ _).alloc (Nat.le_refl _) _
  have hz1 : W1.heap.size ≤ w.heap.size + 1 ∧ w.heap.size + 1 ≤ W1.heap.size := by rw [hW1]; simp
  obtain ⟨W2, hW2⟩ : ∃ W2, W2 = W1.alloc (.cells #[.int .i64 (m.at_ : Int), .bool (m.set 0), .bool (m.set 1), .bool (m.set 2), .bool (m.set 3), .bool (m.set 4), .bool (m.set 5), .bool (m.set 6), .bool (m.set 7), .bool (m.set 8), .bool (m.set 9), .int .u32 (m.reg 0 : Int), .int .u32 (m.reg 1 : Int), .int .u32 (m.reg 2 : Int), .int .u32 (m.reg 3 : Int), .int .u32 (m.reg 4 : Int), .int .u32 (m.reg 5 : Int), .int .u32 (m.reg 6 : Int), .int .u32 (m.reg 7 : Int), .int .u32 (m.reg 8 : Int), .int .u32 (m.reg 9 : Int)] 70) := ⟨_, rfl⟩
  have hb2 : Below w.heap.size w W2 := by rw [hW2]; exact hb1.alloc (by omega) _
  have hown2 : W2.ownsRow 0 70 21 (.slice KA ms.length kc) ms.length (ms.flatMap momCells) := own_move hown (fun k _ hlt => hb2.block k hlt)
  have hs2 : Sl W2 Any 21 (some ⟨W1.heap.size, 0, none⟩) 1 1 (momCells m) := by
    have := Sl.lit W1 70 21 (momCells m).toArray 1 (by simp [maxLen]) rfl
    rw [hW2]; exact this
  have HZ1 := Lib.hid hz1; clear hz1
  have HW2 := Lib.hid hW2; clear hW2
  have hblk : W1.heap[w.heap.size]? = some (.cells #[.int .i64 (m.at_ : Int), .bool (m.set 0), .bool (m.set 1), .bool (m.set 2), .bool (m.set 3), .bool (m.set 4), .bool (m.set 5), .bool (m.set 6), .bool (m.set 7), .bool (m.set 8), .bool (m.set 9), .int .u32 (m.reg 0 : Int), .int .u32 (m.reg 1 : Int), .int .u32 (m.reg 2 : Int), .int .u32 (m.reg 3 : Int), .int .u32 (m.reg 4 : Int), .int .u32 (m.reg 5 : Int), .int .u32 (m.reg 6 : Int), .int .u32 (m.reg 7 : Int), .int .u32 (m.reg 8 : Int), .int .u32 (m.reg 9 : Int)] 70 (0, 0)) := by rw [hW1]; exact heap_alloc_new _ _
  have HW1 := Lib.hid hW1; clear hW1
  have c0 : w.cell? ⟨v, 0, none⟩ = some (.slice KA ms.length kc) := hv.cell 0 (by omega)
  have c1 : W1.cell? ⟨v, 0, none⟩ = some (.slice KA ms.length kc) := (World.cell?_of_block (hb1.block v hvl)).trans c0
  have HBL := Lib.hid hblk; clear hblk
  have HV := Lib.hid hv; clear hv
  have HB := Lib.hid hB; clear hB
  unfold momV
  go_enter Try.func24, Try.ntmps24
  go_upto_region 1 with fail
  rw [← HW1.out]
  refine wp_region_list ?_
  refine wpList_value (w' := W1) (.slice KA ms.length kc) rfl (by simp [go_sem, c1]) ?_
  refine wpList_load_row rfl 70 (.tmp 2) rfl w.heap.size rfl 70 #[.int .i64 (m.at_ : Int), .bool (m.set 0), .bool (m.set 1), .bool (m.set 2), .bool (m.set 3), .bool (m.set 4), .bool (m.set 5), .bool (m.set 6), .bool (m.set 7), .bool (m.set 8), .bool (m.set 9), .int .u32 (m.reg 0 : Int), .int .u32 (m.reg 1 : Int), .int .u32 (m.reg 2 : Int), .int .u32 (m.reg 3 : Int), .int .u32 (m.reg 4 : Int), .int .u32 (m.reg 5 : Int), .int .u32 (m.reg 6 : Int), .int .u32 (m.reg 7 : Int), .int .u32 (m.reg 8 : Int), .int .u32 (m.reg 9 : Int)] (0, 0) _ HBL.out Try.underlying70 rfl size_mom ?_
  refine wpList_value (w' := W1.alloc (.cells #[.int .i64 (m.at_ : Int), .bool (m.set 0), .bool (m.set 1), .bool (m.set 2), .bool (m.set 3), .bool (m.set 4), .bool (m.set 5), .bool (m.set 6), .bool (m.set 7), .bool (m.set 8), .bool (m.set 9), .int .u32 (m.reg 0 : Int), .int .u32 (m.reg 1 : Int), .int .u32 (m.reg 2 : Int), .int .u32 (m.reg 3 : Int), .int .u32 (m.reg 4 : Int), .int .u32 (m.reg 5 : Int), .int .u32 (m.reg 6 : Int), .int .u32 (m.reg 7 : Int), .int .u32 (m.reg 8 : Int), .int .u32 (m.reg 9 : Int)] 70)) (.slice (some ⟨W1.heap.size, 0, none⟩) 1 1) rfl ?_ ?_
  · simp only [execOp, List.map_toArray, List.map_cons, List.map_nil, Sem.run_bind]
    erw [bs_mom m W1]
    rfl
  rw [← HW2.out]
  refine wpList_append_sl _ rfl (.tmp 3) (.tmp 5) _ rfl 0 70 _ 21 64 Try.underlying40 info_mom rfl (by omega) (by omega) (.slice KA ms.length kc) ms.length (ms.flatMap momCells) rfl hown2 (some ⟨W1.heap.size, 0, none⟩) 1 1 (momCells m) rfl hs2 (mom_one m) (by omega) (by omega) ?_
  intro v5 w5 hown5 hg5 hat5
  obtain ⟨KB, kb, rfl⟩ := own_shape hown5
  have hk5 : Kp (fun b => (Value.slice KA ms.length kc).ownBlock = some b) W2 w5 := (Kp.refl _ W2).grown hg5 (fun k hk => .inl hk)
  have hk05 : Kp (fun b => (Value.slice KA ms.length kc).ownBlock = some b) w w5 := (Kp.of_below hb2 _).trans hk5 (fun _ _ e => e)
  have hv5 := HV.out.keep hk05 (fun e => hKv e)
  have c5 : w5.cell? ⟨v, 0, none⟩ = some (.slice KA ms.length kc) := hv5.cell 0 (by omega)
  have f5 := hv5.frozen 0
  have HV5 := Lib.hid hv5; clear hv5
  go_wp2
  go_end0
  have hz5 := hk05.size
  have hzW : w.heap.size ≤ W2.heap.size := hb2.size
  have hwn : w.heap.size + 1 ≤ W2.heap.size := by rw [HW2.out]; have := HZ1.out; simp; omega
  have hkF : Kp (fun b => b = v) w5 (w5.setCell ⟨v, 0, none⟩ (.slice KB (ms.length + 1) kb)) := (Kp.refl (fun b => b = v) w5).setCell (p := ⟨v, 0, none⟩) (.inl rfl) _
  have hv6 : ∀ k, (Value.slice KB (ms.length + 1) kb).ownBlock = some k → (Value.slice KA ms.length kc).ownBlock = some k ∨ w.heap.size ≤ k := fun k hk => by
    rcases hat5 with e | e
    · exact .inl (by rw [← e]; exact hk)
    · rw [e] at hk
      have : W2.heap.size = k := by injection hk
      omega
  have hBv : (Value.slice KB (ms.length + 1) kb).ownBlock ≠ some v := fun e => by
    rcases hv6 v e with e1 | e1
    · exact hKv e1
    · omega
  refine ⟨rfl, (fun k => k = v ∨ (Value.slice KB (ms.length + 1) kb).ownBlock = some k), ⟨⟨.slice KB (ms.length + 1) kb, ?_, ?_, hBv, fun k => Iff.rfl⟩⟩, ?_, ?_⟩
  · exact Blk.congr (Blk.set HV5.out 0 (.slice KB (ms.length + 1) kb)) (fun j hj => if_pos (by omega))
  · rw [List.length_append, List.length_singleton, List.flatMap_append, List.flatMap_singleton]
    exact own_move hown5 (fun k hk hlt => hkF.block k hlt (fun e => by subst e; exact hBv hk))
  · exact (hk05.mono (fun b _ e => (HB.out b).2 (.inr e))).trans (hkF.mono (fun b _ e => (HB.out b).2 (.inl e))) (fun _ _ e => e)
  · intro k hk
    rcases hk with rfl | hk
    · exact .inl ((HB.out _).2 (.inl rfl))
    · exact (hv6 k hk).imp (fun e => (HB.out k).2 (.inr e)) id

theorem tells_trace (v : Nat) : Tells 24 #[.pointer (some ⟨v, 0, none⟩)] (Trc v) where
  enter := fun args w => by go_simp
  keep := fun {B} {ms} {w} {w1} {M} h hk hM => by
    obtain ⟨K, h1, h2, h3, h4⟩ := h.ex
    exact ⟨K, h1.keep hk (hM v ((h4 v).2 (.inl rfl))), own_move h2 (fun k hk' hlt => hk.block k hlt (hM k ((h4 k).2 (.inr hk')))), h3, h4⟩
  lt := fun h k hk => by
    obtain ⟨K, h1, h2, h3, h4⟩ := h.ex
    rcases (h4 k).1 hk with rfl | e
    · exact h1.lt
    · exact (h2.lt k e).2
  call := fun m h hl => trace1_ok m h hl
end Go.Proofs.Ytpnkbpjhbmacaaa
