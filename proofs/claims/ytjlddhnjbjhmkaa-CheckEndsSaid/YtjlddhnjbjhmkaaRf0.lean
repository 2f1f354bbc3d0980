/- Layer 6: words that several walks of the document's answer use. -/
import Derived.Test.YtjlddhnjbjhmkaaGl
import Derived.BigQuiet
set_option linter.unusedVariables false
set_option linter.unusedSimpArgs false
namespace Go.Proofs.Ytjlddhnjbjhmkaa
open Go.RowKit
theorem Blk.litL (w : World) (t : TypeId) (cs : List Value) : Blk (w.alloc (.cells cs.toArray t)) w.heap.size t cs.length (fun j => cs.getD j undef) :=
  Blk.new w t _ _ (by simp) _ (fun j hj => by rw [List.getElem?_toArray, List.getD_eq_getElem?_getD, List.getElem?_eq_getElem hj]; rfl)
theorem sl_blk {W : World} {b n : Nat} {t : TypeId} {pr : List InsZ} {F : Nat → Value} (h : Blk W b t (n * 5) F) (hn : pr.length = n) (hm : n ≤ maxLen) (hF : ∀ j, j < n * 5 → F j = (pr.flatMap insZC).getD j undef) : Sl W Any 5 (some ⟨b, 0, none⟩) n n (pr.flatMap insZC) := by
  have hl : (pr.flatMap insZC).length = n * 5 := by
    rw [← hn]
    clear hn hF h
    induction pr with
    | nil => rfl
    | cons y ys ih => rw [List.flatMap_cons, List.length_append, ih, List.length_cons]; simp [insZC]; omega
  refine ⟨hl, Nat.le_refl _, hm, (fun h => by cases h), fun a ha hn0 => ?_⟩
  injection ha with ha
  subst ha
  refine ⟨trivial, h.lt, fun j u hu => ?_⟩
  have hj : j < n * 5 := by rw [← hl]; exact (List.getElem?_eq_some_iff.1 hu).1
  have := h.cell j hj
  rw [hF j hj, List.getD_eq_getElem?_getD, hu] at this
  have e : (⟨b, 0, none⟩ : Addr).add j = ⟨b, j, none⟩ := by simp [Addr.add]; try exact fun h => h.symm
  rw [e]
  exact this
theorem Blk.setr {W : World} {b : Nat} {k : Kn} (h : Blk W b 42 31 (knF k)) (n : Nat) (r : Rg) : Blk (W.setCells b (1 + n * 3) [.bool r.s, .int .u32 (r.l : Int), .int .u32 (r.g : Int)]) b 42 31 (knF ⟨k.come, upd k.r n r⟩) :=
  (Blk.setCells [.bool r.s, .int .u32 (r.l : Int), .int .u32 (r.g : Int)] (1 + n * 3) W (knF k) h).congr (knF_upd k n r)
structure AlJ (z k1 k2 : Nat) (ty : TypeId) (m : Nat) (F : Nat → Value) (l : Nat → Bool) (v : Nat → Value) (W : World) : Prop where
  a : l k1 = true → ∃ b, v k1 = .pointer (some ⟨b, 0, none⟩) ∧ z ≤ b ∧ Blk W b ty m F
  b : l k2 = true → ∃ b, v k2 = .pointer (some ⟨b, 0, none⟩) ∧ z ≤ b ∧ Blk W b ty m F
  e : l k1 = true → l k2 = true → v k1 ≠ v k2
theorem AlJ.zero (z k1 k2 : Nat) (ty : TypeId) (m : Nat) (F : Nat → Value) (W : World) : AlJ z k1 k2 ty m F (fun _ => false) (fun _ => undef) W := by
  constructor <;> intro h <;> cases h
theorem AlJ.up1 {z k1 k2 : Nat} {ty : TypeId} {m : Nat} {F : Nat → Value} {l : Nat → Bool} {v : Nat → Value} {W : World} (h : AlJ z k1 k2 ty m F l v W) (hk : k1 ≠ k2) (hz : z ≤ W.heap.size) (cs : List Value) (hm : cs.length = m) (hF : F = fun j => cs.getD j undef) : AlJ z k1 k2 ty m F (upd l k1 true) (upd v k1 (.pointer (some ⟨W.heap.size, 0, none⟩))) (W.alloc (.cells cs.toArray ty)) := by
  have hb := (Below.refl W.heap.size W).alloc (Nat.le_refl _) (.cells cs.toArray ty)
  have hn : Blk (W.alloc (.cells cs.toArray ty)) W.heap.size ty m F := by rw [hF, ← hm]; exact Blk.litL W ty cs
  obtain ⟨a, b, e⟩ := h
  constructor <;> simp only [upd_at, upd_ne _ _ _ (Ne.symm hk)]
  · intro _; exact ⟨_, rfl, hz, hn⟩
  · intro q; obtain ⟨b1, c1, c2, c3⟩ := b q; exact ⟨b1, c1, c2, c3.below hb⟩
  · intro _ q
    obtain ⟨b1, c1, c2, c3⟩ := b q
    rw [c1]
    exact ptr_ne (by have := c3.lt; omega)
theorem AlJ.up2 {z k1 k2 : Nat} {ty : TypeId} {m : Nat} {F : Nat → Value} {l : Nat → Bool} {v : Nat → Value} {W : World} (h : AlJ z k1 k2 ty m F l v W) (hk : k1 ≠ k2) (hz : z ≤ W.heap.size) (cs : List Value) (hm : cs.length = m) (hF : F = fun j => cs.getD j undef) : AlJ z k1 k2 ty m F (upd l k2 true) (upd v k2 (.pointer (some ⟨W.heap.size, 0, none⟩))) (W.alloc (.cells cs.toArray ty)) := by
  have hb := (Below.refl W.heap.size W).alloc (Nat.le_refl _) (.cells cs.toArray ty)
  have hn : Blk (W.alloc (.cells cs.toArray ty)) W.heap.size ty m F := by rw [hF, ← hm]; exact Blk.litL W ty cs
  obtain ⟨a, b, e⟩ := h
  constructor <;> simp only [upd_at, upd_ne _ _ _ hk]
  · intro q; obtain ⟨b1, c1, c2, c3⟩ := a q; exact ⟨b1, c1, c2, c3.below hb⟩
  · intro _; exact ⟨_, rfl, hz, hn⟩
  · intro q _
    obtain ⟨b1, c1, c2, c3⟩ := a q
    rw [c1]
    exact ptr_ne (by have := c3.lt; omega)
theorem kn_rg {W : World} {b : Nat} {k : Kn} (h : Blk W b 42 31 (knF k)) (n : Nat) (hn : n < 10) : W.rangeAt b (1 + n * 3) [.bool (k.r n).s, .int .u32 ((k.r n).l : Int), .int .u32 ((k.r n).g : Int)] := fun j v hv => by
  have hj : j < 3 := by have := (List.getElem?_eq_some_iff.1 hv).1; simpa using this
  have := h.cell (1 + n * 3 + j) (by omega)
  have hc : j = 0 ∨ j = 1 ∨ j = 2 := by omega
  rcases hc with rfl | rfl | rfl
  · rw [Nat.add_zero] at this ⊢; rw [knF_s] at this; simp at hv; rw [← hv]; exact this
  · rw [knF_l] at this; simp at hv; rw [← hv]; exact this
  · rw [knF_g] at this; simp at hv; rw [← hv]; exact this
theorem wpList_ldk {ops : Array Oper} {rest : List Oper} {ty : TypeId} {pos : String} {after : Array Edge} {gd : Option (Nat × Bool)} {a : Act} {w : World} {Q : Exit → Act → World → Prop} (d x : Tmp) (b o : Nat) (k : Kn)
    (hg : Region.wanted (Oper.mk (some d) (.load 42 (.tmp x)) ty pos after gd) (yielded ops a.tmps) = true) (hx : a.eval (.tmp x) = .pointer (some ⟨b, o, none⟩)) (hr : w.rangeAt b o (knL k))
    (hk : wpList Try.prog ops Q rest (a.put (some d) (.agg (knL k).toArray)) w) : wpList Try.prog ops Q (Oper.mk (some d) (.load 42 (.tmp x)) ty pos after gd :: rest) a w :=
  wpList_valueg (w' := w) (.agg (knL k).toArray) hg (exec_load_mid 42 (.tmp x) rfl b o hx (knL k) _ hr Try.underlying42 rfl (by rw [knL_length]; exact info_kn)) hk
theorem wpList_callg {ops : Array Oper} {rest : List Oper} {o : Oper} {a : Act} {w : World} {Q : Exit → Act → World → Prop} {f : FuncId} {args : Array Value} {v : Value} {R : World → Prop} (hg : Region.wanted o (yielded ops a.tmps) = true)
    (h : (execOp a.eval o).run Try.prog w = .ok (.enter f args) w) (hc : Calls Try.prog f args w fun e w' => e = .returned v ∧ R w') (hk : ∀ w', R w' → wpList Try.prog ops Q rest (a.put o.dst v) w') : wpList Try.prog ops Q (o :: rest) a w :=
  wpList_wanted hg fun K hK => wp_calls_ret h hc fun w' hr => hK _ _ (hk w' hr)
theorem exec_idxr {o : Oper} {ac : Act} {W : World} (x y : Operand) (ho : o.op = .indexAddr 40 x y) {g m : Nat} (hx : ac.eval x = .pointer (some ⟨g, 1, none⟩)) (hy : ac.eval y = .int .i64 (m : Int)) (hm : m < 10) : (execOp ac.eval o).run Try.prog W = .ok (.value (.pointer (some ⟨g, 1 + m * 3, none⟩))) W := by
  have h1 : (m : Int) < 10 := by omega
  unfold execOp
  simp only [ho, hx, hy]
  simp [go_sem, h1]
end Go.Proofs.Ytjlddhnjbjhmkaa
