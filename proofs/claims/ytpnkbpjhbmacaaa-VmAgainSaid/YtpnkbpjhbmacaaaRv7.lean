/- The document's run: its state as a value. -/
import Derived.Test.YtpnkbpjhbmacaaaVm18
import Derived.Test.YtpnkbpjhbmacaaaRv6
set_option linter.unusedVariables false
set_option linter.unusedSimpArgs false
namespace Go.Proofs.Ytpnkbpjhbmacaaa
open Go.RowKit

def stF (K : Value) (s : Vm) (fin : Bool) (j : Nat) : Value :=
  if j = 0 then .int .i64 (s.at_ : Int) else if j < 11 then .bool (s.set (j - 1)) else if j < 21 then .int .i64 (s.reg (j - 11) : Int) else if j = 21 then .int .i64 (s.steps : Int) else if j = 22 then .int .i64 (s.fault : Int)
  else if j = 23 then .int .i64 (s.oat : Int) else if j = 24 then .int .u32 (s.val : Int) else if j = 25 then K else if j < 90 then .int .u8 (s.scr (j - 26) : Int) else .bool fin
def rowF (N : Nat) (F : Nat → Value) : List Value := (List.range N).map F
theorem rowF_length (N : Nat) (F : Nat → Value) : (rowF N F).length = N := by simp [rowF]
theorem rowF_get (N : Nat) (F : Nat → Value) (j : Nat) (hj : j < N) : (rowF N F)[j]? = some (F j) := by simp [rowF, List.getElem?_range hj]
theorem rowF_one (N : Nat) (F : Nat → Value) (h : ∀ j, j < N → (F j).oneCell' = true) : (rowF N F).toArray.all (·.oneCell') = true := by
  rw [List.all_toArray, List.all_eq_true]
  intro u hu
  obtain ⟨j, hj, rfl⟩ := List.mem_map.1 hu
  exact h j (List.mem_range.1 hj)
def stL (K : Value) (s : Vm) (fin : Bool) : List Value := rowF 91 (stF K s fin)
theorem stF_one (K : Value) (hK : K.oneCell' = true) (s : Vm) (fin : Bool) (j : Nat) : (stF K s fin j).oneCell' = true := by
  unfold stF
  repeat' split
  all_goals first | rfl | exact hK
theorem stL_one (K : Value) (hK : K.oneCell' = true) (s : Vm) (fin : Bool) : (stL K s fin).toArray.all (·.oneCell') = true := rowF_one _ _ fun j _ => stF_one K hK s fin j
theorem Blk.range {w : World} {g : Nat} {t : TypeId} {N : Nat} {F : Nat → Value} (h : Blk w g t N F) : w.rangeAt g 0 (rowF N F) := fun j v hv => by
  have hj : j < N := by
    rcases Nat.lt_or_ge j N with h | h
    · exact h
    · rw [List.getElem?_eq_none (by rw [rowF_length]; exact h)] at hv; cases hv
  rw [rowF_get N F j hj] at hv
  injection hv with hv
  rw [← hv, Nat.zero_add]
  exact h.cell j hj
theorem Blk.rangeAt {w : World} {g : Nat} {t : TypeId} {N : Nat} {F : Nat → Value} (h : Blk w g t N F) (o n : Nat) (ho : o + n ≤ N) : w.rangeAt g o (rowF n (fun j => F (o + j))) := fun j v hv => by
  have hj : j < n := by
    rcases Nat.lt_or_ge j n with h | h
    · exact h
    · rw [List.getElem?_eq_none (by rw [rowF_length]; exact h)] at hv; cases hv
  rw [rowF_get n _ j hj] at hv
  injection hv with hv
  rw [← hv]
  exact h.cell (o + j) (by omega)
theorem Blk.boxed (w : World) (t : TypeId) (N : Nat) (F : Nat → Value) : Blk (w.alloc (.cells (rowF N F).toArray t)) w.heap.size t N F :=
  Blk.new w t _ N (by simp [rowF]) F fun j hj => by rw [List.getElem?_toArray]; exact rowF_get N F j hj
theorem Blk.setCells {g : Nat} {t : TypeId} {N : Nat} : ∀ (vs : List Value) (o : Nat) (w : World) (F : Nat → Value), Blk w g t N F → Blk (w.setCells g o vs) g t N (fun j => if o ≤ j ∧ j < o + vs.length then vs.getD (j - o) undef else F j)
  | [], o, w, F, h => h.congr fun j _ => by rw [if_neg (by simp)]
  | v :: vs, o, w, F, h => by
    refine (Blk.setCells vs (o + 1) _ _ (h.set o v)).congr fun j hj => ?_
    by_cases h1 : o + 1 ≤ j ∧ j < o + 1 + vs.length
    · rw [if_pos h1, if_pos (by simp; omega), show j - o = (j - (o + 1)) + 1 from by omega, List.getD_cons_succ]
    · rw [if_neg h1]
      by_cases h2 : j = o
      · subst h2
        simp
      · rw [if_neg h2, if_neg (by simp; omega)]
theorem Blk.fill {w : World} {g : Nat} {t : TypeId} {N : Nat} {F : Nat → Value} (h : Blk w g t N F) (G : Nat → Value) : Blk (w.setCells g 0 (rowF N G)) g t N G :=
  (Blk.setCells _ 0 _ _ h).congr fun j hj => by
    rw [if_pos ⟨Nat.zero_le _, by rw [rowF_length]; omega⟩, List.getD_eq_getElem?_getD, Nat.sub_zero, rowF_get N G j hj]; rfl
theorem info_state : (Try.prog.info? 83).map (·.size) = some 91 := by kernel_rfl
theorem size_state : Try.zeroCells83.size = 91 := by kernel_rfl
/-- The value of one result that lies in a block, whole. -/
theorem results_cell1_range {P : Program} {fn : Func} {p : Tmp} {ty : TypeId} (h : fn.results = #[.cell p ty]) (tmps : Array Value) (w : World) (g o : Nat) (cs : List Value) (d : TypeDesc)
    (hp : tmps.getD p undef = .pointer (some ⟨g, o, none⟩)) (hc : w.rangeAt g o cs) (hu : P.underlying ty = some d) (hd : d.isRow = true) (hi : (P.info? ty).map (·.size) = some cs.length) :
    (results fn tmps).run P w = .ok (.agg cs.toArray) w := by
  have hp' : tmps[p]?.getD undef = .pointer (some ⟨g, o, none⟩) := by simpa using hp
  simp [results, h, hp', asAddr, run_loadVar_mid w g o ty cs d hc hu hd hi]
/-- A state in its block, and the block of the result. -/
structure St2 (w : World) (F : Nat → Value) (W : World) : Prop where
  b : Below w.heap.size w W
  z : w.heap.size + 2 ≤ W.heap.size
  s : Blk W w.heap.size 83 91 F
  r : ∃ G, Blk W (w.heap.size + 1) 83 91 G
theorem St2.start (w : World) (F : Nat → Value) (cs : Array Value) (hcs : cs.size = 91) : St2 w F ((w.alloc (.cells (rowF 91 F).toArray 83)).alloc (.cells cs 83)) := by
  refine ⟨((Below.refl _ _).alloc (Nat.le_refl _) _).alloc (by simp) _, by simp, (Blk.boxed w _ 91 F).below ((Below.refl _ _).alloc (Nat.le_refl _) _), (fun j => cs.getD j undef), ?_⟩
  have := Blk.lit (w.alloc (.cells (rowF 91 F).toArray 83)) 83 cs
  rw [hcs] at this
  simpa using this
theorem St2.put {w : World} {F : Nat → Value} {W : World} (h : St2 w F W) (j : Nat) (v : Value) : St2 w (fun i => if i = j then v else F i) (W.setCell ⟨w.heap.size, j, none⟩ v) := by
  have hk : Kp (fun b => b = w.heap.size) W (W.setCell ⟨w.heap.size, j, none⟩ v) := (Kp.refl (fun b => b = w.heap.size) W).setCell (p := ⟨w.heap.size, j, none⟩) (.inl rfl) v
  refine ⟨h.b.setCell (by simp) _, by have := hk.size; have := h.z; omega, h.s.set j v, ?_⟩
  obtain ⟨G, hG⟩ := h.r
  exact ⟨G, hG.keep hk (by omega)⟩
theorem St2.congr {w : World} {F G : Nat → Value} {W : World} (h : St2 w F W) (e : ∀ j, j < 91 → F j = G j) : St2 w G W := ⟨h.b, h.z, h.s.congr e, h.r⟩
theorem St2.there {w : World} {F : Nat → Value} {W : World} (h : St2 w F W) : W.there (w.heap.size + 1) 0 91 := by
  obtain ⟨G, hG⟩ := h.r
  exact there_blk hG
theorem St2.theres {w : World} {F : Nat → Value} {W : World} (h : St2 w F W) : W.there w.heap.size 0 91 := there_blk h.s
theorem St2.more {w : World} {F : Nat → Value} {W W1 : World} (h : St2 w F W) (hb : Below W.heap.size W W1) : St2 w F W1 :=
  ⟨h.b.trans (hb.mono (by have := h.z; omega)), by have := hb.size; have := h.z; omega, h.s.below hb, by obtain ⟨G, hG⟩ := h.r; exact ⟨G, hG.below hb⟩⟩
theorem St2.drewp {w : World} {F : Nat → Value} {W : World} (h : St2 w F W) : St2 w F W.drew := h.more ((Below.refl _ _).drew)
theorem St2.fill {w : World} {F : Nat → Value} {W : World} (h : St2 w F W) (G : Nat → Value) : St2 w G (W.setCells w.heap.size 0 (rowF 91 G)) := by
  have hk : Kp (fun b => b = w.heap.size) W (W.setCells w.heap.size 0 (rowF 91 G)) := Kp.setCells (M := fun b => b = w.heap.size) (.inl rfl) _ _ _ (Kp.refl _ _)
  have hz := h.z
  refine ⟨((Kp.of_below h.b No).trans (Kp.setCells (M := fun b => w.heap.size ≤ b) (w := W) (b := w.heap.size) (.inl (Nat.le_refl _)) (rowF 91 G) 0 W (Kp.refl _ _)) (fun b hb hm => by omega)).below, by have := hk.size; omega, h.s.fill G, ?_⟩
  obtain ⟨R, hR⟩ := h.r
  exact ⟨R, hR.keep hk (by omega)⟩
/-- The result is laid. -/
theorem St2.done {w : World} {F : Nat → Value} {W : World} (h : St2 w F W) (cs : List Value) (hc : cs.length = 91) :
    ∃ W3, Hid (W3 = W.setCells (w.heap.size + 1) 0 cs) ∧ Hid (W3.rangeAt (w.heap.size + 1) 0 cs) ∧ Hid (Below w.heap.size w W3) :=
  ⟨_, Lib.hid rfl, Lib.hid (World.rangeAt_setCells_same W (w.heap.size + 1) 0 cs (by rw [hc]; exact h.there)), Lib.hid (Kp.setCells (w := w) (b := w.heap.size + 1) (.inr (by omega)) _ _ _ (Kp.of_below h.b No)).below⟩
end Go.Proofs.Ytpnkbpjhbmacaaa
