/- The document's run: its turns. -/
import Derived.Test.YtpnkbpjhbmacaaaRw1
set_option linter.unusedVariables false
set_option linter.unusedSimpArgs false
namespace Go.Proofs.Ytpnkbpjhbmacaaa
open Go.RowKit

theorem runTo_succ (pr : List Ins8) (cx : List UInt8) (ans : List Nat) (n : Nat) (s : Vm) :
    runTo pr cx ans (n + 1) s = if (stepV pr cx ans s).2 then ([s.mom], (stepV pr cx ans s).1) else (s.mom :: (runTo pr cx ans n (stepV pr cx ans s).1).1, (runTo pr cx ans n (stepV pr cx ans s).1).2) := by
  have e : runTo pr cx ans (n + 1) s = (match stepRes pr cx ans s with
    | .stop why => ([s.mom], s.mark.fall why)
    | .go s' more true => ([s.mom], s'.next more)
    | .go s' more false => (s.mom :: (runTo pr cx ans n (s'.next more)).1, (runTo pr cx ans n (s'.next more)).2)) := rfl
  rw [e]
  unfold stepV
  cases stepRes pr cx ans s with
  | stop why => rfl
  | go s' more fin => cases fin <;> rfl
def Un (s : Vm) : Prop := ∀ n, s.set n = false → s.reg n = 0
theorem Un.put {s : Vm} (h : Un s) (n v : Nat) : Un (s.put n v) := fun i hi => by
  simp only [Vm.put, upd] at hi ⊢
  by_cases e : i = n
  · rw [if_pos e] at hi; cases hi
  · rw [if_neg e] at hi ⊢; exact h i hi
theorem Un.call {s : Vm} (h : Un s) (imm : Nat) (ans : List Nat) : Un (s.call imm ans) := fun i hi => by
  simp only [Vm.call] at hi ⊢
  by_cases e : i = 0
  · rw [if_pos e] at hi; cases hi
  · rw [if_neg e] at hi ⊢
    by_cases e5 : i ≤ 5
    · rw [if_pos e5]
    · rw [if_neg e5] at hi ⊢; exact h i hi
theorem does_un {s s' : Vm} {i : Ins8} {cx : List UInt8} {ans : List Nat} {more : Int} {fin : Bool} (hu : Un s) (h : doesRes s i cx ans = .go s' more fin) : Un s' := by
  unfold doesRes at h
  split at h
  · unfold sumRes at h
    repeat' split at h
    all_goals (cases h; try exact hu.put _ _)
  split at h
  · unfold ldcRes at h
    repeat' split at h
    all_goals (cases h; try exact hu.put _ _)
  split at h
  · unfold ldsRes at h
    repeat' split at h
    all_goals (cases h; try exact hu.put _ _)
  split at h
  · unfold stsRes at h
    repeat' split at h
    all_goals (cases h; try exact hu)
  split at h
  · injection h with h1; subst h1; exact hu
  split at h
  · unfold jeqRes at h
    repeat' split at h
    all_goals (cases h; try exact hu)
  split at h
  · unfold jltRes at h
    repeat' split at h
    all_goals (cases h; try exact hu)
  split at h
  · injection h with h1; subst h1; exact hu.call _ _
  · unfold exitRes at h
    repeat' split at h
    all_goals (cases h; try exact hu)
/-- What holds of a state behind k steps. -/
structure RI (s : Vm) (k : Nat) : Prop where
  ok : VmOk s
  un : Un s
  cl : s.calls.length ≤ k
  at_ : s.at_ ≤ 256 * k
  st : s.steps ≤ k
theorem RI.zero : RI vm0 0 := ⟨⟨fun _ => by simp [vm0], fun _ => by simp [vm0]⟩, fun _ _ => rfl, by simp [vm0], by simp [vm0], by simp [vm0]⟩
theorem RI.next {pr : List Ins8} {cx : List UInt8} {ans : List Nat} {s : Vm} {k : Nat} (h : RI s k) (hpm : ∀ i, i ∈ pr → i.May) (hav : ∀ v, v ∈ ans → v < 4294967296) : (stepV pr cx ans s).1.calls.length ≤ k + 1 ∧ ((stepV pr cx ans s).2 = false → RI (stepV pr cx ans s).1 (k + 1)) := by
  rcases hr : stepRes pr cx ans s with ⟨s', more, fin⟩ | why
  · rw [stepV_go hr]
    have hr2 := hr
    unfold stepRes at hr2
    rcases hi : pr[s.at_]? with _ | i
    · rw [hi] at hr2; cases hr2
    · rw [hi] at hr2
      have hr3 : doesRes s.mark i cx ans = .go s' more fin := hr2
      have hn := does_nxt h.ok.mark (hpm i (List.mem_of_getElem? hi)) hav hr3
      have hu : Un s' := does_un (s := s.mark) (fun n hn' => h.un n hn') hr3
      have e1 : s'.at_ = s.at_ := hn.at_
      have e2 : s'.steps = s.steps := hn.steps
      have e3 : s'.calls.length ≤ s.calls.length + 1 := hn.calls
      have h1 := h.cl
      have h2 := h.at_
      have h3 := h.st
      have m0 := hn.m0
      have m1 := hn.m1
      refine ⟨by show s'.calls.length ≤ k + 1; omega, fun _ => ⟨⟨hn.ok.reg, hn.ok.scr⟩, hu, by show s'.calls.length ≤ k + 1; omega, ?_, ?_⟩⟩
      · show ((s'.at_ : Int) + (1 + more)).toNat ≤ 256 * (k + 1)
        omega
      · show s'.steps + 1 ≤ k + 1
        omega
  · rw [stepV_stop hr]
    exact ⟨by have := h.cl; show s.calls.length ≤ k + 1; omega, fun e => by cases e⟩
/-- How a run goes on. -/
structure RG (pr : List Ins8) (cx : List UInt8) (ans : List Nat) (MS : List Mom) (S : Vm) (k : Nat) (s : Vm) (fin : Bool) (ms : List Mom) : Prop where
  kb : k ≤ pr.length + 1
  ml : ms.length = k
  cl : s.calls.length ≤ k
  ri : fin = false → RI s k
  go : fin = false → ms ++ (runTo pr cx ans (pr.length + 1 - k) s).1 = MS ∧ (runTo pr cx ans (pr.length + 1 - k) s).2 = S
  fin : fin = true → ms = MS ∧ s = S
theorem RG.zero (pr : List Ins8) (cx : List UInt8) (ans : List Nat) : RG pr cx ans (runTo pr cx ans (pr.length + 1) vm0).1 (runTo pr cx ans (pr.length + 1) vm0).2 0 vm0 false [] :=
  ⟨by omega, rfl, by simp [vm0], fun _ => RI.zero, fun _ => ⟨rfl, rfl⟩, fun e => by cases e⟩
theorem RG.next {pr : List Ins8} {cx : List UInt8} {ans : List Nat} {MS : List Mom} {S : Vm} {k : Nat} {s : Vm} {ms : List Mom} (h : RG pr cx ans MS S k s false ms) (hk : k ≤ pr.length) (hpm : ∀ i, i ∈ pr → i.May) (hav : ∀ v, v ∈ ans → v < 4294967296) :
    RG pr cx ans MS S (k + 1) (stepV pr cx ans s).1 (stepV pr cx ans s).2 (ms ++ [s.mom]) := by
  obtain ⟨g1, g2⟩ := h.go rfl
  have hn := (h.ri rfl).next (cx := cx) hpm hav
  have hl := h.ml
  rw [show pr.length + 1 - k = (pr.length + 1 - (k + 1)) + 1 by omega, runTo_succ] at g1 g2
  refine ⟨by omega, by simp; omega, hn.1, hn.2, fun e => ?_, fun e => ?_⟩
  · rw [e] at g1 g2
    exact ⟨by rw [List.append_assoc]; exact g1, g2⟩
  · rw [e] at g1 g2
    exact ⟨g1, g2⟩
/-- A run does not go on behind its last turn. -/
theorem RG.done {pr : List Ins8} {cx : List UInt8} {ans : List Nat} {MS : List Mom} {S : Vm} {k : Nat} {s : Vm} {fin : Bool} {ms : List Mom} (h : RG pr cx ans MS S k s fin ms) (hk : fin = true ∨ ¬ k ≤ pr.length) : ms = MS ∧ s = S := by
  cases fin with
  | true => exact h.fin rfl
  | false =>
    have : k = pr.length + 1 := by have := h.kb; rcases hk with e | e; cases e; omega
    obtain ⟨g1, g2⟩ := h.go rfl
    subst this
    rw [Nat.sub_self] at g1 g2
    exact ⟨by simpa [runTo] using g1, g2⟩
theorem stF_ran (K : Value) (s : Vm) (fin : Bool) : rowF 69 (fun j => stF K s fin (21 + j)) = ranL K s := by
  apply List.ext_getElem?
  intro j
  rcases Nat.lt_or_ge j 69 with hj | hj
  · rw [rowF_get 69 _ j hj]
    have hc : j = 0 ∨ j = 1 ∨ j = 2 ∨ j = 3 ∨ j = 4 ∨ ∃ i, i < 64 ∧ j = i + 5 := by
      rcases Nat.lt_or_ge j 5 with h | h
      · omega
      · exact .inr (.inr (.inr (.inr (.inr ⟨j - 5, by omega, by omega⟩))))
    rcases hc with rfl | rfl | rfl | rfl | rfl | ⟨i, hi, rfl⟩
    · rfl
    · rfl
    · rfl
    · rfl
    · rfl
    · rw [show 21 + (i + 5) = 26 + i by omega, stF_scr K s fin i hi]
      simp only [ranL, List.getElem?_cons_succ, List.getElem?_map, List.getElem?_range hi, Option.map_some]
  · rw [List.getElem?_eq_none (by rw [rowF_length]; exact hj), List.getElem?_eq_none (by rw [ranL_length]; exact hj)]
/-- The blocks of Run. -/
structure R3 (w : World) (c0 c1 : Value) (F : Nat → Value) (W : World) : Prop where
  b : Below w.heap.size w W
  z : w.heap.size + 3 ≤ W.heap.size
  p0 : W.cell? ⟨w.heap.size, 0, none⟩ = some c0
  p1 : W.cell? ⟨w.heap.size, 1, none⟩ = some c1
  r : ∃ G, Blk W (w.heap.size + 1) 34 69 G
  s : Blk W (w.heap.size + 2) 83 91 F
theorem R3.keep {w : World} {c0 c1 : Value} {F : Nat → Value} {W W1 : World} (h : R3 w c0 c1 F W) {M : Nat → Prop} (hk : Kp M W W1) (hM : ∀ k, M k → w.heap.size + 3 ≤ k) : R3 w c0 c1 F W1 := by
  have hz := h.z
  refine ⟨((Kp.of_below h.b No).trans hk (fun k hk' hm => by have := hM k hm; omega)).below, by have := hk.size; omega, hk.cell h.p0 (fun e => by have : w.heap.size + 3 ≤ w.heap.size := hM _ e; omega), hk.cell h.p1 (fun e => by have : w.heap.size + 3 ≤ w.heap.size := hM _ e; omega), ?_, h.s.keep hk (fun e => by have := hM _ e; omega)⟩
  obtain ⟨G, hG⟩ := h.r
  exact ⟨G, hG.keep hk (fun e => by have := hM _ e; omega)⟩
theorem R3.more {w : World} {c0 c1 : Value} {F : Nat → Value} {W W1 : World} (h : R3 w c0 c1 F W) (hb : Below W.heap.size W W1) : R3 w c0 c1 F W1 := h.keep (Kp.of_below hb No) (fun _ e => e.elim)
theorem R3.fill {w : World} {c0 c1 : Value} {F : Nat → Value} {W : World} (h : R3 w c0 c1 F W) (G : Nat → Value) : R3 w c0 c1 G (W.setCells (w.heap.size + 2) 0 (rowF 91 G)) ∧ Kp (fun b => b = w.heap.size + 2) W (W.setCells (w.heap.size + 2) 0 (rowF 91 G)) := by
  have hk : Kp (fun b => b = w.heap.size + 2) W (W.setCells (w.heap.size + 2) 0 (rowF 91 G)) := Kp.setCells (M := fun b => b = w.heap.size + 2) (.inl rfl) _ _ _ (Kp.refl _ _)
  refine ⟨⟨(Kp.setCells (w := w) (b := w.heap.size + 2) (.inr (by omega)) _ _ _ (Kp.of_below h.b No)).below, by have := hk.size; have := h.z; omega, hk.cell h.p0 (fun e => by have : w.heap.size = w.heap.size + 2 := e; omega), hk.cell h.p1 (fun e => by have : w.heap.size = w.heap.size + 2 := e; omega), ?_, h.s.fill G⟩, hk⟩
  obtain ⟨R, hR⟩ := h.r
  exact ⟨R, hR.keep hk (by omega)⟩
theorem R3.done {w : World} {c0 c1 : Value} {F : Nat → Value} {W : World} (h : R3 w c0 c1 F W) (cs : List Value) (hc : cs.length = 69) :
    Hid (W.there (w.heap.size + 1) 0 69) ∧ ∃ W3, Hid (W3 = W.setCells (w.heap.size + 1) 0 cs) ∧ Hid (W3.rangeAt (w.heap.size + 1) 0 cs) ∧ Hid (Kp (fun b => b = w.heap.size + 1) W W3) ∧ Hid (Below w.heap.size w W3) := by
  obtain ⟨R, hR⟩ := h.r
  exact ⟨Lib.hid (there_blk hR), _, Lib.hid rfl, Lib.hid (World.rangeAt_setCells_same W (w.heap.size + 1) 0 cs (by rw [hc]; exact there_blk hR)), Lib.hid (Kp.setCells (M := fun b => b = w.heap.size + 1) (.inl rfl) _ _ _ (Kp.refl _ _)), Lib.hid (Kp.setCells (w := w) (b := w.heap.size + 1) (.inr (by omega)) _ _ _ (Kp.of_below h.b No)).below⟩
theorem R3.start (w : World) (c0 c1 : Value) (F : Nat → Value) (cs : Array Value) (hcs : cs.size = 69) :
    R3 w c0 c1 F (((w.alloc (.cells #[c0, c1] 24)).alloc (.cells cs 34)).alloc (.cells (rowF 91 F).toArray 83)) := by
  have h := Beg.start w c0 c1 cs hcs
  have hb : Below ((w.alloc (.cells #[c0, c1] 24)).alloc (.cells cs 34)).heap.size ((w.alloc (.cells #[c0, c1] 24)).alloc (.cells cs 34)) (((w.alloc (.cells #[c0, c1] 24)).alloc (.cells cs 34)).alloc (.cells (rowF 91 F).toArray 83)) := (Below.refl _ _).alloc (Nat.le_refl _) _
  have h2 := h.belowp hb
  have e : ((w.alloc (.cells #[c0, c1] 24)).alloc (.cells cs 34)).heap.size = w.heap.size + 2 := by simp
  refine ⟨h2.b, by simp, h2.c0, h2.c1, h2.r, ?_⟩
  have := Blk.boxed ((w.alloc (.cells #[c0, c1] 24)).alloc (.cells cs 34)) 83 91 F
  rwa [e] at this
end Go.Proofs.Ytpnkbpjhbmacaaa
