/- The document's run: a step, words. -/
import Derived.Test.YtpnkbpjhbmacaaaRv10
import Derived.Test.YtpnkbpjhbmacaaaRv4
set_option linter.unusedVariables false
set_option linter.unusedSimpArgs false
namespace Go.Proofs.Ytpnkbpjhbmacaaa
open Go.RowKit

/-- What a step is given. -/
structure StepIn (w : World) (okc : Nat → Prop) (KA : Option Addr) (kc : Nat) (s : Vm) (IA : Option Addr) (ic : Nat) (pr : List Ins8) (CA : Option Addr) (cc : Nat) (cx : List UInt8) (A : Option Addr) (ca : Nat) (ans : List Nat) : Prop where
  ok : VmOk s
  un : ∀ n, s.set n = false → s.reg n = 0
  sl : Sl w okc 6 KA s.calls.length kc (callsV s.calls)
  cl : s.calls.length ≤ 1000
  at_ : s.at_ ≤ 100000
  st : s.steps ≤ 100000
  ins : Sl w Any 5 IA pr.length ic (pr.flatMap insCells)
  pl : pr.length ≤ 1000
  cxr : By w Any CA cx.length cc cx
  cxl : cx.length ≤ 65536
  an : Wd w Any A ans.length ca ans
  anl : ans.length ≤ 1048576
  anv : ∀ v, v ∈ ans → v < 4294967296
def StepPost (w : World) (okc : Nat → Prop) (s2 : Vm) (fin : Bool) (e : Ending) (w' : World) : Prop :=
  ∃ A c, e = .returned (.agg (stL (.slice A s2.calls.length c) s2 fin).toArray) ∧ Sl w' (fun k => okc k ∨ w.heap.size ≤ k) 6 A s2.calls.length c (callsV s2.calls) ∧ Below w.heap.size w w'
structure S3 (w : World) (c0 c1 : Value) (F : Nat → Value) (W : World) : Prop where
  b : Below w.heap.size w W
  z : w.heap.size + 3 ≤ W.heap.size
  p0 : W.cell? ⟨w.heap.size, 0, none⟩ = some c0
  p1 : W.cell? ⟨w.heap.size, 1, none⟩ = some c1
  s : Blk W (w.heap.size + 1) 83 91 F
  r : ∃ G, Blk W (w.heap.size + 2) 83 91 G
theorem S3.start (w : World) (c0 c1 : Value) (F : Nat → Value) (cs : Array Value) (hcs : cs.size = 91) :
    S3 w c0 c1 F (((w.alloc (.cells #[c0, c1] 24)).alloc (.cells (rowF 91 F).toArray 83)).alloc (.cells cs 83)) := by
  have h := St2.start (w.alloc (.cells #[c0, c1] 24)) F cs hcs
  have e : (w.alloc (.cells #[c0, c1] 24)).heap.size = w.heap.size + 1 := by simp
  refine ⟨((Below.refl _ _).alloc (Nat.le_refl _) _).trans (h.b.mono (by omega)), by have := h.z; omega, ?_, ?_, by rw [← e]; exact h.s, by rw [show w.heap.size + 2 = (w.heap.size + 1) + 1 from rfl, ← e]; exact h.r⟩
  · exact (h.b.cell (p := ⟨w.heap.size, 0, none⟩) (by simp)).trans (by simp [go_sem])
  · exact (h.b.cell (p := ⟨w.heap.size, 1, none⟩) (by simp)).trans (by simp [go_sem])
theorem S3.put {w : World} {c0 c1 : Value} {F : Nat → Value} {W : World} (h : S3 w c0 c1 F W) (j : Nat) (v : Value) : S3 w c0 c1 (fun i => if i = j then v else F i) (W.setCell ⟨w.heap.size + 1, j, none⟩ v) := by
  have hk : Kp (fun b => b = w.heap.size + 1) W (W.setCell ⟨w.heap.size + 1, j, none⟩ v) := (Kp.refl (fun b => b = w.heap.size + 1) W).setCell (p := ⟨w.heap.size + 1, j, none⟩) (.inl rfl) v
  refine ⟨h.b.setCell (by simp) _, by have := hk.size; have := h.z; omega, hk.cell h.p0 (fun e => by have : w.heap.size = w.heap.size + 1 := e; omega), hk.cell h.p1 (fun e => by have : w.heap.size = w.heap.size + 1 := e; omega), h.s.set j v, ?_⟩
  obtain ⟨G, hG⟩ := h.r
  exact ⟨G, hG.keep hk (by omega)⟩
theorem S3.congr {w : World} {c0 c1 : Value} {F G : Nat → Value} {W : World} (h : S3 w c0 c1 F W) (e : ∀ j, j < 91 → F j = G j) : S3 w c0 c1 G W := ⟨h.b, h.z, h.p0, h.p1, h.s.congr e, h.r⟩
theorem S3.keep {w : World} {c0 c1 : Value} {F : Nat → Value} {W W1 : World} (h : S3 w c0 c1 F W) (hk : Kp No W W1) : S3 w c0 c1 F W1 :=
  ⟨((Kp.of_below h.b No).trans hk (fun _ _ e => e)).below, by have := hk.size; have := h.z; omega, hk.cell h.p0 (fun e => e), hk.cell h.p1 (fun e => e), h.s.keep hk (fun e => e), by obtain ⟨R, hR⟩ := h.r; exact ⟨R, hR.keep hk (fun e => e)⟩⟩
theorem S3.more {w : World} {c0 c1 : Value} {F : Nat → Value} {W W1 : World} (h : S3 w c0 c1 F W) (hb : Below W.heap.size W W1) : S3 w c0 c1 F W1 := h.keep (Kp.of_below hb No)
theorem S3.fill {w : World} {c0 c1 : Value} {F : Nat → Value} {W : World} (h : S3 w c0 c1 F W) (G : Nat → Value) : S3 w c0 c1 G (W.setCells (w.heap.size + 1) 0 (rowF 91 G)) := by
  have hk : Kp (fun b => b = w.heap.size + 1) W (W.setCells (w.heap.size + 1) 0 (rowF 91 G)) := Kp.setCells (M := fun b => b = w.heap.size + 1) (.inl rfl) _ _ _ (Kp.refl _ _)
  refine ⟨(Kp.setCells (w := w) (b := w.heap.size + 1) (.inr (by omega)) _ _ _ (Kp.of_below h.b No)).below, by have := hk.size; have := h.z; omega, hk.cell h.p0 (fun e => by have : w.heap.size = w.heap.size + 1 := e; omega), hk.cell h.p1 (fun e => by have : w.heap.size = w.heap.size + 1 := e; omega), h.s.fill G, ?_⟩
  obtain ⟨R, hR⟩ := h.r
  exact ⟨R, hR.keep hk (by omega)⟩
theorem S3.done {w : World} {c0 c1 : Value} {F : Nat → Value} {W : World} (h : S3 w c0 c1 F W) (cs : List Value) (hc : cs.length = 91) :
    Hid (W.there (w.heap.size + 2) 0 91) ∧ ∃ W3, Hid (W3 = W.setCells (w.heap.size + 2) 0 cs) ∧ Hid (W3.rangeAt (w.heap.size + 2) 0 cs) ∧ Hid (Kp (fun b => b = w.heap.size + 2) W W3) ∧ Hid (Below w.heap.size w W3) := by
  obtain ⟨R, hR⟩ := h.r
  exact ⟨Lib.hid (there_blk hR), _, Lib.hid rfl, Lib.hid (World.rangeAt_setCells_same W (w.heap.size + 2) 0 cs (by rw [hc]; exact there_blk hR)), Lib.hid (Kp.setCells (M := fun b => b = w.heap.size + 2) (.inl rfl) _ _ _ (Kp.refl _ _)), Lib.hid (Kp.setCells (w := w) (b := w.heap.size + 2) (.inr (by omega)) _ _ _ (Kp.of_below h.b No)).below⟩
/-- With the instruction in its block. -/
structure S4 (w : World) (c0 c1 : Value) (F : Nat → Value) (i : Ins8) (W : World) : Prop where
  g : S3 w c0 c1 F W
  n : InsB W (w.heap.size + 3) i
theorem S4.put {w : World} {c0 c1 : Value} {F : Nat → Value} {i : Ins8} {W : World} (h : S4 w c0 c1 F i W) (j : Nat) (v : Value) : S4 w c0 c1 (fun i => if i = j then v else F i) i (W.setCell ⟨w.heap.size + 1, j, none⟩ v) :=
  ⟨h.g.put j v, h.n.keep ((Kp.refl (fun b => b = w.heap.size + 1) W).setCell (p := ⟨w.heap.size + 1, j, none⟩) (.inl rfl) v) (by omega)⟩
theorem S4.congr {w : World} {c0 c1 : Value} {F G : Nat → Value} {i : Ins8} {W : World} (h : S4 w c0 c1 F i W) (e : ∀ j, j < 91 → F j = G j) : S4 w c0 c1 G i W := ⟨h.g.congr e, h.n⟩
theorem S4.more {w : World} {c0 c1 : Value} {F : Nat → Value} {i : Ins8} {W W1 : World} (h : S4 w c0 c1 F i W) (hb : Below W.heap.size W W1) : S4 w c0 c1 F i W1 := ⟨h.g.more hb, h.n.keep (Kp.of_below hb No) (fun e => e)⟩
theorem S4.drewp {w : World} {c0 c1 : Value} {F : Nat → Value} {i : Ins8} {W : World} (h : S4 w c0 c1 F i W) : S4 w c0 c1 F i W.drew := h.more ((Below.refl _ _).drew)
theorem S4.fill {w : World} {c0 c1 : Value} {F : Nat → Value} {i : Ins8} {W : World} (h : S4 w c0 c1 F i W) (G : Nat → Value) : S4 w c0 c1 G i (W.setCells (w.heap.size + 1) 0 (rowF 91 G)) :=
  ⟨h.g.fill G, h.n.keep (Kp.setCells (M := fun b => b = w.heap.size + 1) (.inl rfl) _ _ _ (Kp.refl _ _)) (by omega)⟩
theorem S3.ins {w : World} {c0 c1 : Value} {F : Nat → Value} {W : World} (h : S3 w c0 c1 F W) (hz : W.heap.size = w.heap.size + 3) (i : Ins8) : S4 w c0 c1 F i (W.alloc (.cells #[.int .i64 (i.op : Int), .int .i64 (i.dst : Int), .int .i64 (i.src : Int), .int .i64 i.off, .int .u32 (i.imm : Int)] 50)) :=
  ⟨h.more ((Below.refl _ _).alloc (Nat.le_refl _) _), by rw [← hz]; exact InsB.new W i⟩
theorem exec_load_mid {P : Program} {o : Oper} {ac : Act} {w : World} (ty : TypeId) (x : Operand) (ho : o.op = .load ty x) (b k : Nat) (hx : ac.eval x = .pointer (some ⟨b, k, none⟩)) (cs : List Value) (d : TypeDesc) (hc : w.rangeAt b k cs)
    (hu : P.underlying ty = some d) (hd : d.isRow = true) (hi : (P.info? ty).map (·.size) = some cs.length) : (execOp ac.eval o).run P w = .ok (.value (.agg cs.toArray)) w := by
  unfold execOp
  simp only [ho, hx, Instr.loadAt, Instr.sureAddr, Sem.run_bind, Sem.run_pure, Result.andThen_ok, run_loadVar_mid w b k ty cs d hc hu hd hi]
theorem stF_mark (K : Value) (s : Vm) (fin : Bool) : ∀ j, j < 91 → (if j = 23 then Value.int .i64 (s.at_ : Int) else stF K s fin j) = stF K s.mark fin j := by
  intro j _
  by_cases e : j = 23
  · subst e; rfl
  · rw [if_neg e]
    unfold stF
    simp only [if_neg e, Vm.mark]
theorem stF_next (K : Value) (s : Vm) (fin : Bool) (more n : Int) (hn : n = ((s.next more).at_ : Int)) : ∀ j, j < 91 → (if j = 0 then Value.int .i64 n else if j = 21 then Value.int .i64 ((s.steps : Int) + 1) else stF K s fin j) = stF K (s.next more) fin j := by
  intro j _
  subst hn
  by_cases e : j = 0
  · subst e; rfl
  · rw [if_neg e]
    by_cases e2 : j = 21
    · subst e2; rfl
    · rw [if_neg e2]
      unfold stF
      simp only [if_neg e, if_neg e2, Vm.next]
theorem stF_poke (K : Value) (s : Vm) (fin : Bool) (n v : Nat) (hn : n < 64) : ∀ j, j < 91 → (if j = 26 + n then Value.int .u8 (v : Int) else stF K s fin j) = stF K (s.poke n v) fin j := by
  intro j _
  unfold stF
  by_cases e : j = 26 + n
  · subst e
    rw [if_pos rfl, if_neg (by omega), if_neg (by omega), if_neg (by omega), if_neg (by omega), if_neg (by omega), if_neg (by omega), if_neg (by omega), if_neg (by omega), if_pos (by omega)]
    simp only [Vm.poke, upd]
    rw [if_pos (by omega)]
  · rw [if_neg e]
    simp only [Vm.poke, upd]
    by_cases h9 : j < 90
    · by_cases h26 : j < 26
      · have hx : j = 0 ∨ j < 11 ∨ j < 21 ∨ j = 21 ∨ j = 22 ∨ j = 23 ∨ j = 24 ∨ j = 25 := by omega
        repeat' split
        all_goals first | rfl | (exfalso; omega)
      · rw [if_neg (show ¬ j - 26 = n by omega)]
    · simp only [if_neg h9]
theorem stF_tell (K : Value) (s : Vm) (fin : Bool) (v : Nat) : ∀ j, j < 91 → (if j = 24 then Value.int .u32 (v : Int) else if j = 90 then Value.bool true else stF K s fin j) = stF K (s.tell v) true j := by
  intro j hj
  by_cases e : j = 24
  · subst e; rfl
  · rw [if_neg e]
    by_cases e2 : j = 90
    · subst e2; rfl
    · rw [if_neg e2]
      unfold stF
      simp only [if_neg e, Vm.tell]
      by_cases h9 : j < 90
      · simp only [if_pos h9]
      · omega
theorem stF_scr (K : Value) (s : Vm) (fin : Bool) (k : Nat) (hk : k < 64) : stF K s fin (26 + k) = .int .u8 (s.scr k : Int) := by
  unfold stF
  rw [if_neg (by omega), if_neg (by omega), if_neg (by omega), if_neg (by omega), if_neg (by omega), if_neg (by omega), if_neg (by omega), if_neg (by omega), if_pos (by omega), show 26 + k - 26 = k from by omega]
theorem call_rd {w W7 W8 W10 : World} {okc : Nat → Prop} {base n c : Nat} {A : Option Addr} {cs : List Value} {v1 v2 : Value} (h : W7.ownsRow base 80 6 (.slice A n c) n cs) (hz : w.heap.size + 3 ≤ base)
    (e : (W7.setCell ⟨w.heap.size + 1, 21, none⟩ v1).setCell ⟨w.heap.size + 1, 0, none⟩ v2 = W8) (hk : Kp (fun b => b = w.heap.size + 2) W8 W10) : Sl W10 (fun k => okc k ∨ w.heap.size ≤ k) 6 A n c cs := by
  subst e
  have hk8 : Kp (fun b => b = w.heap.size + 1) W7 ((W7.setCell ⟨w.heap.size + 1, 21, none⟩ v1).setCell ⟨w.heap.size + 1, 0, none⟩ v2) := ((Kp.refl (fun b => b = w.heap.size + 1) W7).setCell (p := ⟨w.heap.size + 1, 21, none⟩) (.inl rfl) v1).setCell (p := ⟨w.heap.size + 1, 0, none⟩) (.inl rfl) v2
  have h8 := own_move h (fun k hk' hlt => hk8.block k hlt (fun e => by have := (h.lt k hk').1; omega))
  have h10 := own_move h8 (fun k hk' hlt => hk.block k hlt (fun e => by have := (h.lt k hk').1; omega))
  obtain ⟨A2, c2, he, hs⟩ := Sl.of_own (ok := fun k => okc k ∨ w.heap.size ≤ k) h10 (fun k hk' _ => .inr (by have := (h.lt k hk').1; omega))
  injection he with e1 e2 e3
  subst e1; subst e3
  exact hs
end Go.Proofs.Ytpnkbpjhbmacaaa
