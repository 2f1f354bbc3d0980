/- The VM: a run, abstractly. -/
import Derived.Test.YtpnkbpjhbmacaaaVm8
set_option linter.unusedVariables false
set_option linter.unusedSimpArgs false
namespace Go.Proofs.Ytpnkbpjhbmacaaa
open Go.RowKit

def Vm.mark (s : Vm) : Vm := { s with oat := s.at_ }
def Vm.fall (s : Vm) (why : Nat) : Vm := { s with fault := why }
def Vm.next (s : Vm) (more : Int) : Vm := { s with steps := s.steps + 1, at_ := ((s.at_ : Int) + (1 + more)).toNat }
def stepRes (pr : List Ins8) (ctx : List UInt8) (ans : List Nat) (s : Vm) : Res :=
  match pr[s.at_]? with
  | none => .stop 1
  | some i => doesRes s.mark i ctx ans
def runTo (pr : List Ins8) (ctx : List UInt8) (ans : List Nat) : Nat → Vm → List Mom × Vm
  | 0, s => ([], s)
  | n + 1, s =>
    match stepRes pr ctx ans s with
    | .stop why => ([s.mom], s.mark.fall why)
    | .go s' more true => ([s.mom], s'.next more)
    | .go s' more false => (s.mom :: (runTo pr ctx ans n (s'.next more)).1, (runTo pr ctx ans n (s'.next more)).2)

structure Nxt (s s' : Vm) (more : Int) : Prop where
  at_ : s'.at_ = s.at_
  steps : s'.steps = s.steps
  m0 : 0 ≤ more
  m1 : more ≤ 255
  ok : VmOk s'
  calls : s'.calls.length ≤ s.calls.length + 1

theorem VmOk.put {s : Vm} (h : VmOk s) (n v : Nat) (hv : v < 4294967296) : VmOk (s.put n v) := by
  refine ⟨fun m => ?_, h.scr⟩
  simp only [Vm.put, upd]
  split
  · exact hv
  · exact h.reg m
theorem VmOk.mark {s : Vm} (h : VmOk s) : VmOk s.mark := ⟨h.reg, h.scr⟩
theorem VmOk.poke {s : Vm} (h : VmOk s) (n v : Nat) (hv : v < 256) : VmOk (s.poke n v) := by
  refine ⟨h.reg, fun m => ?_⟩
  simp only [Vm.poke, upd]
  split
  · exact hv
  · exact h.scr m
theorem VmOk.call {s : Vm} (h : VmOk s) (n : Nat) (ans : List Nat) (hav : ∀ v, v ∈ ans → v < 4294967296) : VmOk (s.call n ans) := by
  refine ⟨fun m => ?_, h.scr⟩
  simp only [Vm.call]
  split
  · rcases Nat.lt_or_ge s.calls.length ans.length with hl | hl
    · rw [List.getD_eq_getElem?_getD, List.getElem?_eq_getElem hl]; exact hav _ (List.getElem_mem hl)
    · rw [List.getD_eq_getElem?_getD, List.getElem?_eq_none hl]; simp
  · split
    · omega
    · exact h.reg m
theorem op2_lt9 (op a b : Nat) (ha : a < 4294967296) (hb : b < 4294967296) : op2 op a b < 4294967296 := by
  unfold op2
  repeat' split
  · exact hb
  · omega
  · omega
  · omega
  · exact Nat.lt_of_le_of_lt Nat.and_le_left ha
  · exact Nat.or_lt_two_pow (n := 32) ha hb
  · exact Nat.xor_lt_two_pow (n := 32) ha hb
  · omega
  · exact Nat.lt_of_le_of_lt (Nat.div_le_self _ _) ha
  · exact Nat.lt_of_le_of_lt (Nat.div_le_self _ _) ha
  · exact Nat.lt_of_le_of_lt (Nat.mod_le _ _) ha

theorem nxt_same {s : Vm} (h : VmOk s) (more : Int) (h0 : 0 ≤ more) (h1 : more ≤ 255) : Nxt s s more := ⟨rfl, rfl, h0, h1, h, by omega⟩
theorem nxt_put {s : Vm} (h : VmOk s) (n v : Nat) (hv : v < 4294967296) : Nxt s (s.put n v) 0 := ⟨rfl, rfl, by omega, by omega, h.put n v hv, by simp [Vm.put]⟩

theorem does_nxt {s s' : Vm} {i : Ins8} {ctx : List UInt8} {ans : List Nat} {more : Int} {fin : Bool} (hok : VmOk s) (hm : i.May) (hav : ∀ v, v ∈ ans → v < 4294967296) (h : doesRes s i ctx ans = .go s' more fin) : Nxt s s' more := by
  have hj : 19 ≤ i.op → 0 ≤ i.off ∧ i.off ≤ 255 := hm.jmp
  unfold doesRes at h
  split at h
  · unfold sumRes at h
    have hv : (if i.useImm then i.imm else s.reg i.src) < 4294967296 := by
      split
      · exact hm.imm
      · exact hok.reg _
    generalize (if i.useImm then i.imm else s.reg i.src) = v at h hv
    split at h; · cases h
    split at h; · cases h
    split at h; · cases h
    injection h with h1 h2 h3
    subst h1 h2
    refine nxt_put hok _ _ (op2_lt9 _ _ _ ?_ hv)
    split
    · omega
    · exact hok.reg _
  split at h
  · unfold ldcRes at h
    split at h
    · split at h
      · injection h with h1 h2 h3
        subst h1 h2
        refine nxt_put hok _ _ ?_
        have := (ctx.getD ((s.reg i.src : Int) + i.off).toNat 0).toNat_lt
        omega
      · cases h
    · cases h
  split at h
  · unfold ldsRes at h
    split at h
    · split at h
      · injection h with h1 h2 h3
        subst h1 h2
        refine nxt_put hok _ _ ?_
        have := hok.scr ((s.reg i.src : Int) + i.off).toNat
        omega
      · cases h
    · cases h
  split at h
  · unfold stsRes at h
    split at h
    · split at h
      · split at h
        · injection h with h1 h2 h3
          subst h1 h2
          exact ⟨rfl, rfl, by omega, by omega, hok.poke _ _ (by omega), by simp [Vm.poke]⟩
        · cases h
      · cases h
    · cases h
  split at h
  · injection h with h1 h2 h3
    subst h1 h2
    have := hj (by omega)
    exact nxt_same hok _ this.1 this.2
  split at h
  · have := hj (by omega)
    unfold jeqRes at h
    split at h
    · split at h
      · injection h with h1 h2 h3
        subst h1 h2
        exact nxt_same hok _ this.1 this.2
      · injection h with h1 h2 h3
        subst h1 h2
        exact nxt_same hok _ (by omega) (by omega)
    · cases h
  split at h
  · have := hj (by omega)
    unfold jltRes at h
    split at h
    · split at h
      · split at h
        · injection h with h1 h2 h3
          subst h1 h2
          exact nxt_same hok _ this.1 this.2
        · injection h with h1 h2 h3
          subst h1 h2
          exact nxt_same hok _ (by omega) (by omega)
      · split at h
        · split at h
          · injection h with h1 h2 h3
            subst h1 h2
            exact nxt_same hok _ this.1 this.2
          · injection h with h1 h2 h3
            subst h1 h2
            exact nxt_same hok _ (by omega) (by omega)
        · cases h
    · cases h
  split at h
  · injection h with h1 h2 h3
    subst h1 h2
    exact ⟨rfl, rfl, by omega, by omega, hok.call _ _ hav, by simp [Vm.call]⟩
  · unfold exitRes at h
    split at h
    · injection h with h1 h2 h3
      subst h1 h2
      exact ⟨rfl, rfl, by omega, by omega, ⟨hok.reg, hok.scr⟩, by simp [Vm.tell]⟩
    · cases h

/-- No result: what is left of a call does not hang on its slots. -/
theorem leaves_tmps {fn : Func} (hr : fn.results = #[]) (t1 t2 : Array Value) {R : Ending → World → Prop} : ∀ (ds : List Deferred) (u : FrameMode) (w : World), Leaves Try.prog fn t1 R ds u w → Leaves Try.prog fn t2 R ds u w := by
  intro ds
  induction ds with
  | nil =>
    intro u w h
    cases u with
    | returning => simpa [Leaves, results, hr] using h
    | panicking c => exact h
    | run => exact h
  | cons d ds ih =>
    intro u w h
    obtain ⟨h1, fv, cap, f, args, h2, h3, h4⟩ := h
    refine ⟨h1, fv, cap, f, args, h2, h3, h4.mono fun e u' w' hh => ?_⟩
    cases e with
    | returned v => exact ih _ _ hh
    | panicked c => exact ih _ _ hh
    | outgrown => exact hh

theorem goes_caught {R : Ending → World → Prop} (tm : Array Value) (b x : Nat) (why : Int) (w : World) (hp : w.cell? ⟨b, 0, none⟩ = some (.pointer (some ⟨x, 0, none⟩))) {c : Value} (hc : w.cell? ⟨x, 26, none⟩ = some c) (hf : w.frozen? ⟨x, 26, none⟩ = false) (hx : x < w.heap.size) (hb : b < w.heap.size)
    (h : R (.returned (.tuple #[])) ((w.setCell ⟨x, 26, none⟩ (.int .i64 why)).alloc (.cells #[.int .i64 why] 109))) :
    Leaves Try.prog Try.f32 tm R [{ target := .fn (.func 42) #[.pointer (some ⟨b, 0, none⟩)], args := #[] }] (.panicking (stopP why)) w := by
  refine leaves_cons (f := 42) (args := #[.pointer (some ⟨b, 0, none⟩)]) (by simp) (by simp [go_sem]) ?_
  refine (catch_stop b x why w hp hc hf hx hb).mono ?_
  rintro e u' w'' ⟨rfl, hu, rfl⟩
  show Leaves _ _ _ _ [] (settle u') _
  rw [hu]
  exact ⟨.tuple #[], by simp [results, Try.results32, go_sem], h⟩
theorem goes_idle {R : Ending → World → Prop} (tm : Array Value) (b : Nat) (w : World) (h : R (.returned (.tuple #[])) w) :
    Leaves Try.prog Try.f32 tm R [{ target := .fn (.func 42) #[.pointer (some ⟨b, 0, none⟩)], args := #[] }] .returning w := by
  refine leaves_cons (f := 42) (args := #[.pointer (some ⟨b, 0, none⟩)]) (by simp) (by simp [go_sem]) ?_
  refine (catch_idle b w).mono ?_
  rintro e u' w'' ⟨rfl, rfl, rfl⟩
  exact ⟨.tuple #[], by simp [results, Try.results32, go_sem], h⟩

/-- A value of more cells, read. -/
theorem run_load_at {P : Program} {w : World} (a : Addr) (ty : TypeId) (cs : List Value) (d : TypeDesc) (hc : ∀ j v, cs[j]? = some v → w.cell? (a.add j) = some v)
    (hu : P.underlying ty = some d) (hd : (match d with | .struct _ | .array _ _ => true | _ => false) = true) (hi : (P.info? ty).map (·.size) = some cs.length) :
    (loadVar ty a).run P w = .ok (.agg cs.toArray) w := by
  have hl : (loadCells a cs.length).run P w = .ok cs.toArray w := run_loadCells_list (P := P) w a cs hc
  cases hq : P.info? ty with
  | none => simp [hq] at hi
  | some i =>
    have hs : i.size = cs.length := by simpa [hq] using hi
    have hagg : (isAgg ty).run P w = .ok true w := by
      unfold isAgg
      rw [Sem.run_bind, run_underlying hu w]
      cases d <;> simp_all
    simp [loadVar, Sem.run_bind, hagg, sizeOf, typeInfo, hq, hs, hl]
theorem exec_load_at {P : Program} {w : World} {o : Oper} {ac : Act} (ty : TypeId) (x : Operand) (ho : o.op = .load ty x) (a : Addr) (hx : ac.eval x = .pointer (some a)) (cs : List Value) (d : TypeDesc) (hc : ∀ j v, cs[j]? = some v → w.cell? (a.add j) = some v)
    (hu : P.underlying ty = some d) (hd : (match d with | .struct _ | .array _ _ => true | _ => false) = true) (hi : (P.info? ty).map (·.size) = some cs.length) :
    (execOp ac.eval o).run P w = .ok (.value (.agg cs.toArray)) w := by
  unfold execOp
  simp only [ho, hx, Instr.loadAt, Instr.sureAddr, Sem.run_bind, Sem.run_pure, Result.andThen_ok, run_load_at a ty cs d hc hu hd hi]
end Go.Proofs.Ytpnkbpjhbmacaaa
