/- Layer 6: the ground: worlds, slices, drawn regions, and the plain law of what is known. -/
import Derived.Test.YtjlddhnjbjhmkaaProg
import Derived.WalkKit
import Derived.Maps.AppendAt
import Derived.Laws.CopyOwn
import Derived.Lib.Hide
import Derived.Deep.Draws
import Derived.Deep.RegionLaw
import Derived.WalkSpells
import Derived.StillTailTactics
import Derived.OrdersHeld
import Derived.StillTail
import Derived.Deep.RegionHeld3
import Derived.WalkLawsBesides
import Derived.Deep.CutRange
import Derived.Laws.Bits64b
import Derived.Laws.EntriesVeiled
import Derived.Defers
import Derived.Recover
import Derived.Deep.WholeRow
import Derived.Laws.Rows
import Derived.Laws.ResultCell
import Derived.Laws.MathBits
import Derived.Deep.MidRow
import Derived.Deep.Upon
import Derived.Laws.StructEq
import Derived.ScopeJumps
import Derived.WalkMore
import Derived.ChangeKeysEq
import Derived.BigQuiet
set_option linter.unusedVariables false
namespace Go.Proofs.Ytjlddhnjbjhmkaa
open Go.RowKit

theorem add_block (a : Addr) (n : Nat) : (a.add n).block = a.block := by unfold Addr.add; split <;> rfl
theorem add_add (a : Addr) (i j : Nat) : (a.add i).add j = a.add (i + j) := by
  unfold Addr.add
  by_cases hi : i = 0 <;> by_cases hj : j = 0 <;> simp [hi, hj, Nat.add_assoc]

/-- All blocks of w but those of M lie in w' as they lay. -/
structure Kp (M : Nat → Prop) (w w' : World) : Prop where
  os : w'.os = w.os
  tape : w'.tape = w.tape
  output : w'.output = w.output
  size : w.heap.size ≤ w'.heap.size
  block : ∀ k, k < w.heap.size → ¬ M k → w'.heap[k]? = w.heap[k]?

/-- What is ok lies in w' as it lay in w. -/
structure Mv (ok : Nat → Prop) (w w' : World) : Prop where
  size : w.heap.size ≤ w'.heap.size
  block : ∀ k, k < w.heap.size → ok k → w'.heap[k]? = w.heap[k]?

def No (_ : Nat) : Prop := False
def Any (_ : Nat) : Prop := True

theorem Kp.refl (M : Nat → Prop) (w : World) : Kp M w w := ⟨rfl, rfl, rfl, Nat.le_refl _, fun _ _ _ => rfl⟩
theorem Kp.trans {M M1 : Nat → Prop} {w w1 w2 : World} (h : Kp M w w1) (k : Kp M1 w1 w2) (hM : ∀ b, b < w.heap.size → M1 b → M b) : Kp M w w2 :=
  ⟨k.os.trans h.os, k.tape.trans h.tape, k.output.trans h.output, Nat.le_trans h.size k.size, fun b hb hn => (k.block b (Nat.lt_of_lt_of_le hb h.size) (fun h1 => hn (hM b hb h1))).trans (h.block b hb hn)⟩
theorem Kp.mono {M M1 : Nat → Prop} {w w1 : World} (h : Kp M w w1) (hM : ∀ b, b < w.heap.size → M b → M1 b) : Kp M1 w w1 :=
  ⟨h.os, h.tape, h.output, h.size, fun b hb hn => h.block b hb (fun h1 => hn (hM b hb h1))⟩
theorem Kp.of_below {w w1 : World} (h : Below w.heap.size w w1) (M : Nat → Prop) : Kp M w w1 := ⟨h.os, h.tape, h.output, h.size, fun b hb _ => h.block b hb⟩
theorem Kp.below {w w1 : World} (h : Kp No w w1) : Below w.heap.size w w1 := ⟨h.os, h.tape, h.output, h.size, fun b hb => h.block b hb (fun x => x)⟩
theorem Kp.thenB {M : Nat → Prop} {w w1 w2 : World} (h : Kp M w w1) (k : Below w1.heap.size w1 w2) : Kp M w w2 := h.trans (Kp.of_below k No) (fun _ _ x => x.elim)
theorem Kp.alloc {M : Nat → Prop} {w w1 : World} (h : Kp M w w1) (o : Obj) : Kp M w (w1.alloc o) := h.thenB ((Below.refl _ _).alloc (Nat.le_refl _) o)
theorem Kp.drew {M : Nat → Prop} {w w1 : World} (h : Kp M w w1) : Kp M w w1.drew := ⟨h.os, h.tape, h.output, h.size, h.block⟩
theorem Kp.drewN {M : Nat → Prop} {w w1 : World} (h : Kp M w w1) (n : Nat) : Kp M w (w1.drewN n) := ⟨h.os, h.tape, h.output, h.size, h.block⟩
theorem Kp.setCell {M : Nat → Prop} {w w1 : World} (h : Kp M w w1) {p : Addr} (hp : M p.block ∨ w.heap.size ≤ p.block) (u : Value) : Kp M w (w1.setCell p u) :=
  ⟨h.os, h.tape, h.output, by simpa [World.setCell] using h.size, fun b hb hn => (Below.heap_setCell w1 p u b (by
    rintro rfl
    rcases hp with hp | hp
    · exact hn hp
    · omega)).trans (h.block b hb hn)⟩
theorem Kp.grown {M : Nat → Prop} {w w1 w2 : World} (h : Kp M w w1) {row : Option Nat} (hg : w1.grownBy w2 row) (hr : ∀ k, row = some k → M k ∨ w.heap.size ≤ k) : Kp M w w2 :=
  ⟨hg.os.trans h.os, hg.tape.trans h.tape, hg.output.trans h.output, Nat.le_trans h.size hg.size, fun b hb hn => (hg.block b (Nat.lt_of_lt_of_le hb h.size) (fun e => by
    rcases hr b e.symm with h1 | h1
    · exact hn h1
    · omega)).trans (h.block b hb hn)⟩

theorem Mv.of_kp {M ok : Nat → Prop} {w w1 : World} (h : Kp M w w1) (ho : ∀ k, k < w.heap.size → ok k → ¬ M k) : Mv ok w w1 := ⟨h.size, fun k hk h1 => h.block k hk (ho k hk h1)⟩
theorem Mv.of_below {w w1 : World} (h : Below w.heap.size w w1) (ok : Nat → Prop) : Mv ok w w1 := ⟨h.size, fun k hk _ => h.block k hk⟩
theorem Mv.refl (ok : Nat → Prop) (w : World) : Mv ok w w := ⟨Nat.le_refl _, fun _ _ _ => rfl⟩
theorem Mv.trans {ok : Nat → Prop} {w w1 w2 : World} (h : Mv ok w w1) (k : Mv ok w1 w2) : Mv ok w w2 := ⟨Nat.le_trans h.size k.size, fun b hb ho => (k.block b (Nat.lt_of_lt_of_le hb h.size) ho).trans (h.block b hb ho)⟩
theorem Mv.alloc (ok : Nat → Prop) (w : World) (o : Obj) : Mv ok w (w.alloc o) := Mv.of_below ((Below.refl _ _).alloc (Nat.le_refl _) o) ok
theorem Mv.drewN (ok : Nat → Prop) (w : World) (n : Nat) : Mv ok w (w.drewN n) := ⟨Nat.le_refl _, fun _ _ _ => rfl⟩
theorem Mv.drew {ok : Nat → Prop} {w w1 : World} (h : Mv ok w w1) : Mv ok w w1.drew := ⟨h.size, h.block⟩
theorem of_take {α : Type} {l : List α} {k j : Nat} {v : α} (h : (l.take k)[j]? = some v) : l[j]? = some v := by
  rw [List.getElem?_take] at h
  split at h
  · exact h
  · cases h
theorem Mv.setCell {ok : Nat → Prop} (w : World) {p : Addr} (hp : ¬ ok p.block) (u : Value) : Mv ok w (w.setCell p u) :=
  ⟨by simp [World.setCell], fun k hk ho => Below.heap_setCell w p u k (by rintro rfl; exact hp ho)⟩
theorem Mv.mono {ok ok1 : Nat → Prop} {w w1 : World} (h : Mv ok w w1) (ho : ∀ k, k < w.heap.size → ok1 k → ok k) : Mv ok1 w w1 := ⟨h.size, fun k hk h1 => h.block k hk (ho k hk h1)⟩
theorem Mv.cell {ok : Nat → Prop} {w w1 : World} (h : Mv ok w w1) {a : Addr} {v : Value} (hc : w.cell? a = some v) (ho : ok a.block) : w1.cell? a = some v :=
  (World.cell?_of_block (h.block a.block (World.block_lt_of_cell? w a hc) ho)).trans hc

/-! ### a slice that is read: '.slice A n c' holds the cells xs (sz cells an element) -/
def Sl (w : World) (ok : Nat → Prop) (sz : Nat) (A : Option Addr) (n c : Nat) (xs : List Value) : Prop :=
  xs.length = n * sz ∧ n ≤ c ∧ c ≤ maxLen ∧ (A = none → c = 0) ∧ ∀ a, A = some a → 0 < n → ok a.block ∧ a.block < w.heap.size ∧ ∀ j u, xs[j]? = some u → w.cell? (a.add j) = some u

theorem Sl.cells {w : World} {ok : Nat → Prop} {sz n c : Nat} {a : Addr} {xs : List Value} (h : Sl w ok sz (some a) n c xs) (j : Nat) (u : Value) (hu : xs[j]? = some u) : w.cell? (a.add j) = some u := by
  rcases Nat.eq_zero_or_pos n with h0 | h0
  · have h1 := h.1
    rw [h0, Nat.zero_mul] at h1
    rw [List.eq_nil_of_length_eq_zero h1] at hu
    simp at hu
  · exact (h.2.2.2.2 a rfl h0).2.2 j u hu
theorem Sl.nil (w : World) (ok : Nat → Prop) (sz : Nat) : Sl w ok sz none 0 0 [] := ⟨by simp, Nat.le_refl _, by simp [maxLen], fun _ => rfl, fun a h => by cases h⟩
theorem Sl.move {w w1 : World} {ok : Nat → Prop} {sz n c : Nat} {A : Option Addr} {xs : List Value} (h : Sl w ok sz A n c xs) (hm : Mv ok w w1) : Sl w1 ok sz A n c xs := by
  obtain ⟨h1, h2, h3, h4, h5⟩ := h
  refine ⟨h1, h2, h3, h4, fun a ha hn => ?_⟩
  obtain ⟨k1, k2, k3⟩ := h5 a ha hn
  exact ⟨k1, Nat.lt_of_lt_of_le k2 hm.size, fun j u hu => hm.cell (k3 j u hu) (by rw [add_block]; exact k1)⟩
theorem Sl.mono {w : World} {ok ok1 : Nat → Prop} {sz n c : Nat} {A : Option Addr} {xs : List Value} (h : Sl w ok sz A n c xs) (ho : ∀ k, k < w.heap.size → ok k → ok1 k) : Sl w ok1 sz A n c xs := by
  obtain ⟨h1, h2, h3, h4, h5⟩ := h
  refine ⟨h1, h2, h3, h4, fun a ha hn => ?_⟩
  obtain ⟨k1, k2, k3⟩ := h5 a ha hn
  exact ⟨ho _ k2 k1, k2, k3⟩
theorem Sl.at_ {w : World} {ok : Nat → Prop} {sz n c : Nat} {A : Option Addr} {xs : List Value} (h : Sl w ok sz A n c xs) {j : Nat} (hj : j < n * sz) : ∃ a, A = some a ∧ ok a.block ∧ a.block < w.heap.size ∧ ∀ j u, xs[j]? = some u → w.cell? (a.add j) = some u := by
  obtain ⟨h1, h2, h3, h4, h5⟩ := h
  cases A with
  | none => have := h4 rfl; have : n = 0 := by omega
            subst this; simp at hj
  | some a => exact ⟨a, rfl, h5 a rfl (by rcases Nat.eq_zero_or_pos n with h | h
                                          · subst h; simp at hj
                                          · exact h)⟩
/-- A row of the call's own, read. -/
theorem Sl.of_own {w : World} {ok : Nat → Prop} {base sz n : Nat} {e : TypeId} {v : Value} {xs : List Value} (h : w.ownsRow base e sz v n xs) (ho : ∀ k, v.ownBlock = some k → k < w.heap.size → ok k) : ∃ A c, v = .slice A n c ∧ Sl w ok sz A n c xs := by
  rcases h.2 with ⟨rfl, rfl⟩ | ⟨g, cap, cur, rfl, hb, hg, hn, hc, hs, ht⟩
  · obtain rfl : xs = [] := List.eq_nil_of_length_eq_zero (by simpa using h.1)
    exact ⟨none, 0, rfl, Sl.nil _ _ _⟩
  · refine ⟨_, cap, rfl, h.1, hn, hc, (fun h => by cases h), fun a ha _ => ?_⟩
    injection ha with ha
    subst ha
    have hlt := (Array.getElem?_eq_some_iff.1 hg).1
    exact ⟨ho g (by simp [Value.ownBlock]) hlt, hlt, h.cells (g := g) (by simp [Value.ownBlock])⟩

/-! ### bytes -/
def bv (l : List UInt8) : List Value := l.map fun b => .int .u8 (b.toNat : Int)
theorem bv_length (l : List UInt8) : (bv l).length = l.length := by simp [bv]
theorem bv_append (l m : List UInt8) : bv (l ++ m) = bv l ++ bv m := by simp [bv]
theorem bv_one (l : List UInt8) : ∀ u ∈ bv l, u.oneCell' = true := by
  intro u hu; obtain ⟨b, _, rfl⟩ := List.mem_map.1 hu; rfl
def By (w : World) (ok : Nat → Prop) (A : Option Addr) (n c : Nat) (l : List UInt8) : Prop := Sl w ok 1 A n c (bv l)

end Go.Proofs.Ytjlddhnjbjhmkaa
namespace Go.Proofs.Ytjlddhnjbjhmkaa
open Go.RowKit

section
variable {P : Program} (w : World)

theorem run_append_sl {ok : Nat → Prop} (base : Nat) (t ty e : TypeId) (z : Value) (size bytes : Nat) (ht : P.underlying t = some (.slice e)) (hinfo : (P.info? e).map (fun i => (i.zero, i.size, i.bytes)) = some (some z, size, bytes))
    (hzs : z.cells.size = size) (hsz : 0 < size) (hb0 : 0 < bytes)
    (v : Value) (n : Nat) (xs : List Value) (hown : w.ownsRow base e size v n xs) (A : Option Addr) (m c : Nat) (news : List Value) (hr : Sl w ok size A m c news) (h1 : ∀ u ∈ news, u.oneCell' = true)
    (hbytes : (n + m) * bytes ≤ 140737488355328) (hbase : base ≤ w.heap.size) :
    ∃ v' w', (Builtin.append_ #[t, t] ty #[v, .slice A m c]).run P w = .ok v' w' ∧ w'.ownsRow base e size v' (n + m) (xs ++ news) ∧ w.grownBy w' v.ownBlock ∧
      (v'.ownBlock = v.ownBlock ∨ v'.ownBlock = some w.heap.size) := by
  obtain ⟨i, hi, hzz⟩ := Option.map_eq_some_iff.1 hinfo
  simp only [Prod.mk.injEq] at hzz
  obtain ⟨hz0, hz1, hz2⟩ := hzz
  cases A with
  | none =>
    have hc := hr.2.2.2.1 rfl
    have hm : m = 0 := by have := hr.2.1; omega
    subst hm
    obtain rfl : news = [] := List.eq_nil_of_length_eq_zero (by simpa using hr.1)
    refine ⟨v, w, ?_, by simpa using hown, World.grownBy.refl w _, .inl rfl⟩
    rcases hown.2 with ⟨rfl, rfl⟩ | ⟨g, cap, cur, rfl, _, _, hnc, _⟩
    · simp [Builtin.append_, run_underlying ht, sizeOf, typeInfo, hi, Builtin.lenOf, Builtin.firstCells]
    · simp [Builtin.append_, run_underlying ht, sizeOf, typeInfo, hi, Builtin.lenOf, Builtin.firstCells, hnc, storeCells]
  | some ad =>
    have h63 : n + m ≤ maxLen := by
      have : n + m ≤ (n + m) * bytes := Nat.le_mul_of_pos_right _ hb0
      simp only [maxLen]; omega
    obtain ⟨v', w', hrun, h2, h3, _, h5⟩ := run_append_own_at (P := P) w base t ty e i z size bytes ht hi hz0 hz1 hz2 hzs hsz v n xs hown ad m c news hr.1 hr.cells h1 h63 hbytes hbase
    exact ⟨v', w', hrun, h2, h3, h5⟩

theorem wp_append_sl {o : Oper} {a : Act} {K : Act → World → Prop} {Q : Exit → Act → World → Prop} {ok : Nat → Prop} (s x : Operand) (t : TypeId)
    (ho : o.op = .call { callee := .builtin .append, args := #[s, x], argTypes := #[t, t] })
    (base : Nat) (e : TypeId) (z : Value) (size bytes : Nat) (ht : P.underlying t = some (.slice e)) (hinfo : (P.info? e).map (fun i => (i.zero, i.size, i.bytes)) = some (some z, size, bytes))
    (hzs : z.cells.size = size) (hsz : 0 < size) (hb0 : 0 < bytes)
    (v : Value) (n : Nat) (xs : List Value) (hs : a.eval s = v) (hown : w.ownsRow base e size v n xs) (A : Option Addr) (m c : Nat) (news : List Value) (hx : a.eval x = .slice A m c) (hr : Sl w ok size A m c news) (h1 : ∀ u ∈ news, u.oneCell' = true)
    (hbytes : (n + m) * bytes ≤ 140737488355328) (hbase : base ≤ w.heap.size)
    (h : ∀ v' w', w'.ownsRow base e size v' (n + m) (xs ++ news) → w.grownBy w' v.ownBlock → (v'.ownBlock = v.ownBlock ∨ v'.ownBlock = some w.heap.size) → K (a.put o.dst v') w') : o.wp P a w K Q := by
  obtain ⟨v', w', hrun, h2, h3, h4⟩ := run_append_sl (P := P) w base t o.type e z size bytes ht hinfo hzs hsz hb0 v n xs hown A m c news hr h1 hbytes hbase
  unfold Oper.wp execOp
  simp only [ho, resolve, invoke, builtin, Sem.run_bind, Sem.run_pure, Result.andThen_ok, List.map_toArray, List.map_cons, List.map_nil, hs, hx, hrun]
  exact h v' w' h2 h3 h4

theorem wpList_append_sl {ops : Array Oper} {rest : List Oper} {o : Oper} {a : Act} {Q : Exit → Act → World → Prop} {ok : Nat → Prop} (hgd : o.guard = none) (s x : Operand) (t : TypeId)
    (ho : o.op = .call { callee := .builtin .append, args := #[s, x], argTypes := #[t, t] })
    (base : Nat) (e : TypeId) (z : Value) (size bytes : Nat) (ht : P.underlying t = some (.slice e)) (hinfo : (P.info? e).map (fun i => (i.zero, i.size, i.bytes)) = some (some z, size, bytes))
    (hzs : z.cells.size = size) (hsz : 0 < size) (hb0 : 0 < bytes)
    (v : Value) (n : Nat) (xs : List Value) (hs : a.eval s = v) (hown : w.ownsRow base e size v n xs) (A : Option Addr) (m c : Nat) (news : List Value) (hx : a.eval x = .slice A m c) (hr : Sl w ok size A m c news) (h1 : ∀ u ∈ news, u.oneCell' = true)
    (hbytes : (n + m) * bytes ≤ 140737488355328) (hbase : base ≤ w.heap.size)
    (h : ∀ v' w', w'.ownsRow base e size v' (n + m) (xs ++ news) → w.grownBy w' v.ownBlock → (v'.ownBlock = v.ownBlock ∨ v'.ownBlock = some w.heap.size) → wpList P ops Q rest (a.put o.dst v') w') : wpList P ops Q (o :: rest) a w :=
  wpList_plain hgd fun _ hK => wp_append_sl w s x t ho base e z size bytes ht hinfo hzs hsz hb0 v n xs hs hown A m c news hx hr h1 hbytes hbase fun v' w' h2 h3 h4 => hK _ _ (h v' w' h2 h3 h4)

theorem step_append_sl {Y : Nat → Option Bool} {o : Oper} {a : Act} {K : Act → World → Prop} {Q : Exit → Act → World → Prop} {E : Prop} {ok : Nat → Prop} (hgd : o.guard = none) (s x : Operand) (t : TypeId)
    (ho : o.op = .call { callee := .builtin .append, args := #[s, x], argTypes := #[t, t] })
    (base : Nat) (e : TypeId) (z : Value) (size bytes : Nat) (ht : P.underlying t = some (.slice e)) (hinfo : (P.info? e).map (fun i => (i.zero, i.size, i.bytes)) = some (some z, size, bytes))
    (hzs : z.cells.size = size) (hsz : 0 < size) (hb0 : 0 < bytes)
    (v : Value) (n : Nat) (xs : List Value) (hs : a.eval s = v) (hown : w.ownsRow base e size v n xs) (A : Option Addr) (m c : Nat) (news : List Value) (hx : a.eval x = .slice A m c) (hr : Sl w ok size A m c news) (h1 : ∀ u ∈ news, u.oneCell' = true)
    (hbytes : (n + m) * bytes ≤ 140737488355328) (hbase : base ≤ w.heap.size)
    (h : ∀ v' w', w'.ownsRow base e size v' (n + m) (xs ++ news) → w.grownBy w' v.ownBlock → (v'.ownBlock = v.ownBlock ∨ v'.ownBlock = some w.heap.size) → K (a.put o.dst v') w') :
    if Region.wanted o Y = true then Oper.wp P o a w K Q else E := by
  have hw : Region.wanted o Y = true := by simp [Region.wanted, hgd]
  rw [if_pos hw]
  exact wp_append_sl w s x t ho base e z size bytes ht hinfo hzs hsz hb0 v n xs hs hown A m c news hx hr h1 hbytes hbase h
end

/-- A literal block: '[]T{..}', 'make' of a known size. -/
theorem own_lit (w : World) (e : TypeId) (sz : Nat) (cs : Array Value) (n : Nat) (hm : n ≤ maxLen) (hs : cs.size = n * sz) (base : Nat) (hb : base ≤ w.heap.size) :
    (w.alloc (.cells cs e)).ownsRow base e sz (.slice (some ⟨w.heap.size, 0, none⟩) n n) n cs.toList :=
  World.ownsRow_lit w cs n hb hm hs

theorem Sl.lit (w : World) (e : TypeId) (sz : Nat) (cs : Array Value) (n : Nat) (hm : n ≤ maxLen) (hs : cs.size = n * sz) : Sl (w.alloc (.cells cs e)) Any sz (some ⟨w.heap.size, 0, none⟩) n n cs.toList := by
  obtain ⟨A, c, he, h⟩ := Sl.of_own (ok := Any) (own_lit w e sz cs n hm hs 0 (Nat.zero_le _)) (fun _ _ _ => trivial)
  injection he with h1 h2 h3
  subst h1; subst h3
  exact h
theorem Sl.drew {w : World} {ok : Nat → Prop} {sz n c : Nat} {A : Option Addr} {xs : List Value} (h : Sl w ok sz A n c xs) : Sl w.drew ok sz A n c xs := h
theorem cell_al {w : World} {a : Addr} {v : Value} (h : w.cell? a = some v) (o : Obj) : (w.alloc o).cell? a = some v := (World.cell?_alloc_lt w o a (World.block_lt_of_cell? w a h)).trans h
theorem cell_al_drew {w : World} {a : Addr} {v : Value} (h : w.cell? a = some v) (o : Obj) : (w.alloc o).drew.cell? a = some v := cell_al h o
theorem own_shape {w : World} {base sz n : Nat} {e : TypeId} {v : Value} {xs : List Value} (h : w.ownsRow base e sz v n xs) : ∃ A c, v = .slice A n c := by
  obtain ⟨A, c, he, _⟩ := Sl.of_own (ok := Any) h (fun _ _ _ => trivial)
  exact ⟨A, c, he⟩
theorem own_pos {w : World} {base sz n : Nat} {e : TypeId} {v : Value} {xs : List Value} (h : w.ownsRow base e sz v n xs) (hn : 0 < n) : ∃ g cap, v = .slice (some ⟨g, 0, none⟩) n cap ∧ base ≤ g ∧ g < w.heap.size := by
  rcases h.2 with ⟨_, h0⟩ | ⟨g, cap, cur, he, hb, hg, _⟩
  · omega
  · exact ⟨g, cap, he, hb, (Array.getElem?_eq_some_iff.1 hg).1⟩
theorem own_move {w w1 : World} {base : Nat} {e : TypeId} {size n : Nat} {v : Value} {xs : List Value} (h : w.ownsRow base e size v n xs) (hm : ∀ k, v.ownBlock = some k → k < w.heap.size → w1.heap[k]? = w.heap[k]?) : w1.ownsRow base e size v n xs := by
  have hlt := h.lt
  obtain ⟨h1, h2⟩ := h
  refine ⟨h1, ?_⟩
  rcases h2 with h2 | ⟨g, cap, cur, rfl, hg, hh, r⟩
  · exact .inl h2
  · exact .inr ⟨g, cap, cur, rfl, hg, (hm g (by simp [Value.ownBlock]) (hlt g (by simp [Value.ownBlock])).2).trans hh, r⟩
theorem own_base {w : World} {base base' : Nat} {e : TypeId} {size n : Nat} {v : Value} {xs : List Value} (h : w.ownsRow base e size v n xs) (hb : base' ≤ base) : w.ownsRow base' e size v n xs := by
  obtain ⟨h1, h2⟩ := h
  refine ⟨h1, ?_⟩
  rcases h2 with h2 | ⟨g, cap, cur, rfl, hg, r⟩
  · exact .inl h2
  · exact .inr ⟨g, cap, cur, rfl, by omega, r⟩

/-! ### cuts of slices: the address of what is cut is a letter -/
theorem Sl.cut {w : World} {ok : Nat → Prop} {sz n c lo hi : Nat} {A : Option Addr} {xs : List Value} (h : Sl w ok sz A n c xs) (hl : lo ≤ hi) (hh : hi ≤ n) :
    Sl w ok sz (if c = lo then A else A.map (·.add (lo * sz))) (hi - lo) (c - lo) ((xs.take (hi * sz)).drop (lo * sz)) := by
  obtain ⟨h1, h2, h3, h4, h5⟩ := h
  refine ⟨?_, by omega, by omega, fun he => ?_, fun a ha hn => ?_⟩
  · rw [List.length_drop, List.length_take, h1, Nat.min_eq_left (Nat.mul_le_mul_right _ hh), Nat.sub_mul]
  · split at he
    · omega
    · cases A with
      | none => have := h4 rfl; omega
      | some a => cases he
  · split at ha
    · omega
    · cases A with
      | none => cases ha
      | some a0 =>
        simp only [Option.map_some, Option.some.injEq] at ha
        subst ha
        obtain ⟨k1, k2, k3⟩ := h5 a0 rfl (by omega)
        refine ⟨by rw [add_block]; exact k1, by rw [add_block]; exact k2, fun j u hu => ?_⟩
        rw [add_add]
        refine k3 _ u ?_
        rw [List.getElem?_drop, List.getElem?_take] at hu
        split at hu
        · exact hu
        · cases hu
section
variable {P : Program} (t e : TypeId) (sz : Nat) (ht : P.underlying t = some (.slice e)) (hsz : (P.info? e).map (·.size) = some sz)
include ht hsz
theorem cut_lh (kl kh : IntKind) (A : Option Addr) (n c lo hi : Nat) (hl : lo ≤ hi) (hh : hi ≤ c) :
    ∃ A', (∀ W : World, (Instr.slice t (.slice A n c) (some (.int kl (lo : Int))) (some (.int kh (hi : Int))) none).run P W = .ok (.slice A' (hi - lo) (c - lo)) W) ∧ (lo < c → A' = A.map (·.add (lo * sz))) ∧
      ∀ (w : World) (ok : Nat → Prop) (xs : List Value), hi ≤ n → Sl w ok sz A n c xs → Sl w ok sz A' (hi - lo) (c - lo) ((xs.take (hi * sz)).drop (lo * sz)) := by
  obtain ⟨i, hi', hs⟩ := Option.map_eq_some_iff.1 hsz
  refine ⟨if c = lo then A else A.map (·.add (lo * sz)), fun W => ?_, fun h => by rw [if_neg (by omega)], fun w ok xs h1 h2 => h2.cut hl h1⟩
  have hel : P.elem t = e := by simp [Program.elem, ht]
  have hu : P.underlying t = some (.slice (P.elem t)) := by rw [hel]; exact ht
  rw [run_slice_lh W t A n c hu kl kh (lo : Int) (hi : Int) (by omega) (by omega) (by omega), hel]
  simp [sizeOf, typeInfo, hi', hs, sliced, Result.andThen]
theorem cut_l (kl : IntKind) (A : Option Addr) (n c lo : Nat) (hl : lo ≤ n) :
    ∃ A', (∀ W : World, (Instr.slice t (.slice A n c) (some (.int kl (lo : Int))) none none).run P W = .ok (.slice A' (n - lo) (c - lo)) W) ∧ (lo < c → A' = A.map (·.add (lo * sz))) ∧
      ∀ (w : World) (ok : Nat → Prop) (xs : List Value), Sl w ok sz A n c xs → Sl w ok sz A' (n - lo) (c - lo) (xs.drop (lo * sz)) := by
  obtain ⟨i, hi', hs⟩ := Option.map_eq_some_iff.1 hsz
  refine ⟨if c = lo then A else A.map (·.add (lo * sz)), fun W => ?_, fun h => by rw [if_neg (by omega)], fun w ok xs h2 => ?_⟩
  · have hel : P.elem t = e := by simp [Program.elem, ht]
    have hu : P.underlying t = some (.slice (P.elem t)) := by rw [hel]; exact ht
    rw [run_slice_l W t A n c hu kl (lo : Int) (by omega) (by omega), hel]
    simp [sizeOf, typeInfo, hi', hs, sliced, Result.andThen]
  · have := h2.cut hl (Nat.le_refl n)
    rwa [List.take_of_length_le (by rw [h2.1]; exact Nat.le_refl _)] at this
theorem cut_h (kh : IntKind) (A : Option Addr) (n c hi : Nat) (hh : hi ≤ c) :
    (∀ W : World, (Instr.slice t (.slice A n c) none (some (.int kh (hi : Int))) none).run P W = .ok (.slice A hi c) W) ∧
      ∀ (w : World) (ok : Nat → Prop) (xs : List Value), hi ≤ n → Sl w ok sz A n c xs → Sl w ok sz A hi c (xs.take (hi * sz)) := by
  obtain ⟨i, hi', hs⟩ := Option.map_eq_some_iff.1 hsz
  have hA : A.map (fun x => x.add (0 * sz)) = A := by cases A <;> simp [Addr.add]
  refine ⟨fun W => ?_, fun w ok xs h1 h2 => ?_⟩
  · have hel : P.elem t = e := by simp [Program.elem, ht]
    have hu : P.underlying t = some (.slice (P.elem t)) := by rw [hel]; exact ht
    rw [run_slice_h W t A n c hu kh (hi : Int) (by omega) (by omega), hel]
    simp [sizeOf, typeInfo, hi', hs, sliced, Result.andThen, Addr.add]
  · have h3 := h2.cut (Nat.zero_le hi) h1
    simp only [Nat.zero_mul, List.drop_zero, Nat.sub_zero] at h3
    have e : (if c = 0 then A else A.map (fun x => x.add 0)) = A := by cases A <;> simp [Addr.add]
    rwa [e] at h3
end

/-! ### copy into a row that is owned -/
theorem get3 {α : Type} (A B C : List α) (a b j : Nat) (hA : A.length = a) (hB : B.length = b) : (A ++ (B ++ C))[j]? = if j < a then A[j]? else if j < a + b then B[j - a]? else C[j - a - b]? := by
  subst hA; subst hB
  split
  · rw [List.getElem?_append_left (by omega)]
  · rw [List.getElem?_append_right (by omega)]
    split
    · rw [List.getElem?_append_left (by omega)]
    · rw [List.getElem?_append_right (by omega)]
theorem splice_take {α : Type} (L : List α) (N off : Nat) (cs : List α) (h : off + cs.length ≤ N) (hN : N ≤ L.length) : (L.take off ++ cs ++ L.drop (off + cs.length)).take N = splice (L.take N) off cs := by
  unfold splice
  apply List.ext_getElem?
  intro j
  have h1 : (L.take off).length = off := by rw [List.length_take]; omega
  have h2 : ((L.take N).take off).length = off := by rw [List.length_take, List.length_take]; omega
  rw [get3 _ _ _ off cs.length j h2 rfl]
  by_cases hj : j < N
  · rw [List.getElem?_take_of_lt hj, List.append_assoc, get3 _ _ _ off cs.length j h1 rfl]
    split
    · rw [List.getElem?_take_of_lt (by omega), List.getElem?_take_of_lt (by omega), List.getElem?_take_of_lt (by omega)]
    · split
      · rfl
      · rw [List.getElem?_drop, List.getElem?_drop, List.getElem?_take_of_lt (by omega)]
  · rw [List.getElem?_take_eq_none (by omega), if_neg (by omega), if_neg (by omega), List.getElem?_eq_none]
    rw [List.length_drop, List.length_take]
    omega
theorem run_copy_in {P : Program} (w : World) {ok : Nat → Prop} (dT sT ty e : TypeId) (hu : P.underlying dT = some (.slice e)) (hsz : (P.info? e).map (·.size) = some 1)
    (base nb N nc off : Nat) (xs : List Value) (hown : w.ownsRow base e 1 (.slice (some ⟨nb, 0, none⟩) N nc) N xs) (D : Option Addr) (dl dc : Nat) (hD : 0 < dl → D = some ⟨nb, off, none⟩) (hfit : off + dl ≤ N)
    (S : Option Addr) (sl sc : Nat) (cs : List Value) (hr : Sl w ok 1 S sl sc cs) (h1 : ∀ u ∈ cs, u.oneCell' = true) (k : Nat) (hk : k = min sl dl) :
    ∃ w', (Builtin.copy_ #[dT, sT] ty #[.slice D dl dc, .slice S sl sc]).run P w = .ok (goInt k) w' ∧ w'.ownsRow base e 1 (.slice (some ⟨nb, 0, none⟩) N nc) N (splice xs off (cs.take k)) ∧ Kp (· = nb) w w' := by
  by_cases h0 : k = 0
  · subst h0
    refine ⟨w, run_copy_none w dT sT ty e D S dl dc sl sc hu hsz hk.symm, by simpa [splice] using hown, Kp.refl _ _⟩
  · obtain ⟨a, rfl, _, _, hcell⟩ := hr.at_ (j := 0) (by omega)
    have hD := hD (by omega)
    subst hD
    have hcl : cs.length = sl := by simpa using hr.1
    have hlen : (cs.take k).length = k := by rw [List.length_take, hcl]; omega
    rcases hown with ⟨hx, ⟨he, _⟩ | ⟨g, cap, cur, he, hb, hg, hn, hc, hs, ht⟩⟩
    · cases he
    · injection he with he1 he2 he3
      injection he1 with he1
      injection he1 with he1
      subst he1; subst he3
      have hrun := run_copy_row (P := P) w dT sT ty e nb off dl dc a sl sc cur e (cs.take k) hu hsz hg (by rw [hlen, hk])
        (fun j v hv => hcell j v (of_take hv)) (by rw [hlen, hs]; omega) (fun v hv => h1 v (List.mem_of_mem_take hv))
      rw [hlen] at hrun
      refine ⟨_, hrun, ⟨by rw [length_splice _ _ _ (by rw [hlen, hx]; omega)]; exact hx, .inr ⟨nb, nc, _, rfl, hb, setRow_heap w nb cur _ e _ hg, hn, hc, ?_, ?_⟩⟩, ?_⟩
      · simp only [List.size_toArray, List.length_append, List.length_take, List.length_drop, hcl, Array.length_toList, hs]
        omega
      · simp only [Nat.mul_one] at ht hs
        have e := splice_take cur.toList N off (cs.take k) (by rw [hlen]; omega) (by rw [Array.length_toList]; omega)
        rw [hlen, ht] at e
        simpa using e
      · exact ⟨rfl, rfl, rfl, by simp [World.setRow], fun b hb hn => setRow_other w nb b _ (fun e => hn (by rw [e]))⟩

theorem wpList_copy_in {P : Program} {w : World} {ops : Array Oper} {rest : List Oper} {o : Oper} {a : Act} {Q : Exit → Act → World → Prop} {ok : Nat → Prop} (hgd : o.guard = none) (d s : Operand) (dT sT : TypeId)
    (ho : o.op = .call { callee := .builtin .copy, args := #[d, s], argTypes := #[dT, sT] }) (e : TypeId) (hu : P.underlying dT = some (.slice e)) (hsz : (P.info? e).map (·.size) = some 1)
    (base nb N nc off : Nat) (xs : List Value) (hown : w.ownsRow base e 1 (.slice (some ⟨nb, 0, none⟩) N nc) N xs) (D : Option Addr) (dl dc : Nat) (hd : a.eval d = .slice D dl dc) (hD : 0 < dl → D = some ⟨nb, off, none⟩) (hfit : off + dl ≤ N)
    (S : Option Addr) (sl sc : Nat) (cs : List Value) (hs : a.eval s = .slice S sl sc) (hr : Sl w ok 1 S sl sc cs) (h1 : ∀ u ∈ cs, u.oneCell' = true) (k : Nat) (hk : k = min sl dl)
    (h : ∀ w', w'.ownsRow base e 1 (.slice (some ⟨nb, 0, none⟩) N nc) N (splice xs off (cs.take k)) → Kp (· = nb) w w' → wpList P ops Q rest (a.put o.dst (goInt k)) w') : wpList P ops Q (o :: rest) a w := by
  refine wpList_plain hgd fun K hK => ?_
  obtain ⟨w', hrun, h2, h3⟩ := run_copy_in (P := P) w dT sT o.type e hu hsz base nb N nc off xs hown D dl dc hD hfit S sl sc cs hr h1 k hk
  unfold Oper.wp
  simp [execOp, ho, resolve, invoke, builtin, hd, hs, hrun, Result.andThen]
  exact hK _ _ (h w' h2 h3)

/-- A region that draws its order: all but the last operation only read. -/
theorem still_tail {P : Program} {id : Nat} {Q : Exit → Act → World → Prop} {a : Act} {w : World} {l : List Oper} (n : Nat) (hm : P.follows .mixedOrders = true) (hB : Region.lexTailB .any l.toArray n = true)
    (h : wpStill P l.toArray w.drew (fun a' => wpList P l.toArray Q (l.drop n) a' w.drew) (l.take n) a) : (Code.region id l.toArray true).wp P Q a w := wp_region_still_tail n hm hB h

end Go.Proofs.Ytjlddhnjbjhmkaa
namespace Go.Proofs.Ytjlddhnjbjhmkaa
open Go.RowKit

section
variable {P : Program} {ops : Array Oper} {md : Region.Mode} {Q : Exit → Act → World → Prop} {S : World → Prop} {m : Nat}

def wpAnyM (P : Program) (md : Region.Mode) (ops : Array Oper) (Q : Exit → Act → World → Prop) (S : World → Prop) (m : Nat) : Nat → Array Bool → Act → World → Prop
  | 0, listed, a, w => Region.ready md ops listed = [] ∧ Q .normal a w
  | fuel + 1, listed, a, w =>
    (Region.ready md ops listed = [] → Q .normal a w) ∧
    ∀ i ∈ Region.ready md ops listed, wpOp P ops Q i (fun a' w' => (i < m → S w') ∧ wpAnyM P md ops Q S m fuel (listed.setIfInBounds i true) a' w') a w

theorem wpAny_of_m : ∀ (fuel : Nat) (listed : Array Bool) (a : Act) (w : World), wpAnyM P md ops Q S m fuel listed a w → wpAny P md ops Q fuel listed a w
  | 0, _, _, _, h => h
  | fuel + 1, _, _, _, h => ⟨h.1, fun i hi => wpOp_mono (fun a' w' h' => wpAny_of_m fuel _ a' w' h'.2) (h.2 i hi)⟩

theorem wpAnyM_first {i : Nat} {oi : Oper} {v : Value} (hi : ops[i]? = some oi) (him : i < m) (hsel : ∀ (j : Nat) (o : Oper) cs b, ops[j]? = some o → o.op ≠ .select cs b)
    (hQ : ∀ c a w, Q (.panic c) (a.put oi.dst v) w → Q (.panic c) a w) (hlate : ∀ j oj, ops[j]? = some oj → m ≤ j → ∃ e ∈ oj.after, Region.binds md e = true ∧ e.on = i) :
    ∀ (fuel : Nat) (listed : Array Bool) (a : Act) (w : World),
      (∀ j oj, ops[j]? = some oj → j ≠ i → listed.getD j true = false → (∀ e ∈ oj.after, Region.binds md e = true → e.on ≠ i) → oi.apart ops oj = true) →
      i ∈ Region.ready md ops listed → YieldsIf P ops S oi v a → S w →
      wpAnyM P md ops Q S m fuel (listed.setIfInBounds i true) (a.put oi.dst v) w → wpAnyM P md ops Q S m (fuel + 1) listed a w := by
  intro fuel
  induction fuel with
  | zero =>
    intro listed a w _ hr hy hS H
    refine ⟨fun h => (by rw [h] at hr; cases hr), fun j hj => ?_⟩
    by_cases hji : j = i
    · subst hji; exact hy.wpOp hi hS ⟨fun _ => hS, H⟩
    · have := ready_mono hj hji
      rw [H.1] at this
      cases this
  | succ fuel ih =>
    intro listed a w hfree hr hy hS H
    refine ⟨fun h => (by rw [h] at hr; cases hr), fun j hj => ?_⟩
    by_cases hji : j = i
    · subst hji; exact hy.wpOp hi hS ⟨fun _ => hS, H⟩
    · have h1 := H.2 j (ready_mono hj hji)
      obtain ⟨hjun, oj, hoj, hall⟩ := mem_ready.1 hj
      have hnot : ∀ e ∈ oj.after, Region.binds md e = true → e.on ≠ i := fun e he hb heq => by
        have h1 := hall e he hb
        have h0 := (mem_ready.1 hr).1
        rw [heq] at h1
        rcases Nat.lt_or_ge i listed.size with h' | h'
        · simp [h'] at h0 h1; rw [h0] at h1; cases h1
        · simp [Array.getElem?_eq_none h'] at h1
      have hjm : j < m := by
        rcases Nat.lt_or_ge j m with h | h
        · exact h
        · obtain ⟨e, he, hb, heq⟩ := hlate j oj hoj h
          exact absurd heq (hnot e he hb)
      have h2 := wpOp_putIf hoj (hfree j oj hoj hji hjun hnot) (fun cs b => hsel i oi cs b hi) (fun cs b => hsel j oj cs b hoj) hQ hy h1
      have hfree' : ∀ k ok, ops[k]? = some ok → k ≠ i → (listed.setIfInBounds j true).getD k true = false →
          (∀ e ∈ ok.after, Region.binds md e = true → e.on ≠ i) → oi.apart ops ok = true := fun k ok hk hki hun hno => by
        refine hfree k ok hk hki ?_ hno
        by_cases hjk : j = k
        · subst hjk; exact hjun
        · rw [getD_set_ne true hjk] at hun; exact hun
      refine wpOp_mono (fun a' w' h3 => ⟨fun _ => h3.2.1 hjm, ih (listed.setIfInBounds j true) a' w' hfree' (ready_mono hr (Ne.symm hji)) h3.1 (h3.2.1 hjm) ?_⟩) h2
      rw [Array.setIfInBounds_comm _ _ hji]
      exact h3.2.2

/-- The reads, in the order of the text. -/
def wpRd (P : Program) (ops : Array Oper) (S : World → Prop) (Qd : Act → Prop) : List Oper → Act → Prop
  | [], a => Qd a
  | o :: rest, a => ∃ v, YieldsIf P ops S o v a ∧ wpRd P ops S Qd rest (a.put o.dst v)
/-- The chain behind them. -/
def wpTail (P : Program) (ops : Array Oper) (Q : Exit → Act → World → Prop) (S : World → Prop) (m : Nat) : Nat → List Oper → Act → World → Prop
  | _, [], a, w => Q .normal a w
  | k, o :: rest, a, w => if Region.wanted o (yielded ops a.tmps) then o.wp P a w (fun a' w' => (k < m → S w') ∧ wpTail P ops Q S m (k + 1) rest a' w') Q ∨ (o.asks P a w ∧ LetsOut Q) else (k < m → S w) ∧ wpTail P ops Q S m (k + 1) rest (a.put o.dst undef) w

theorem rd_step {Qd : Act → Prop} {o : Oper} {rest : List Oper} {a : Act} (v : Value) (hg : o.guard = none) (hv : ∀ W, S W → (execOp a.eval o).run P W = .ok (.value v) W) (h : wpRd P ops S Qd rest (a.put o.dst v)) : wpRd P ops S Qd (o :: rest) a :=
  ⟨v, .inl ⟨by simp [Region.wanted, hg], hv⟩, h⟩
theorem rd_nil {Qd : Act → Prop} {a : Act} (h : Qd a) : wpRd P ops S Qd [] a := h
theorem tail_step {k : Nat} {o : Oper} {rest : List Oper} {a : Act} {w : World} (hg : o.guard = none)
    (h : ∀ K : Act → World → Prop, (∀ a' w', (k < m → S w') → wpTail P ops Q S m (k + 1) rest a' w' → K a' w') → o.wp P a w K Q) : wpTail P ops Q S m k (o :: rest) a w := by
  unfold wpTail
  rw [if_pos (by simp [Region.wanted, hg])]
  exact .inl (h _ (fun _ _ h1 h2 => ⟨h1, h2⟩))
theorem tail_late {k : Nat} : ∀ {rest : List Oper} {k : Nat} {a : Act} {w : World}, m ≤ k → wpList P ops Q rest a w → wpTail P ops Q S m k rest a w
  | [], _, _, _, _, h => h
  | o :: rest, k, a, w, hk, h => by
    unfold wpTail
    unfold wpList at h
    split
    · rename_i hw
      rw [if_pos hw] at h
      exact h.imp (fun h1 => Oper.wp_mono (fun a w h2 => ⟨fun h3 => by omega, tail_late (k := 0) (Nat.le_succ_of_le hk) h2⟩) h1) id
    · rename_i hw
      rw [if_neg hw] at h
      exact ⟨fun h3 => by omega, tail_late (k := 0) (Nat.le_succ_of_le hk) h⟩

def pre (sz k : Nat) : Array Bool := (Array.range sz).map (fun i => decide (i < k))
def lexM (md : Region.Mode) (ops : Array Oper) (m : Nat) : Nat → Nat → Array Bool → Bool
  | 0, k, listed => Region.seqB md ops (ops.size - k) k listed
  | f + 1, k, listed => decide (k < m) && (Region.ready md ops listed).contains k && Region.free md ops listed k && ((List.range ops.size).all fun j => decide (j < m) || Region.waitsFor md ops j k) && lexM md ops m f (k + 1) (listed.setIfInBounds k true)
def mixB (md : Region.Mode) (ops : Array Oper) (n m : Nat) : Bool := Region.noSelect ops && decide (n ≤ ops.size) && lexM md ops m n 0 (Array.replicate ops.size false)

theorem wpAnyM_of_seq : ∀ (l : List Oper) (k : Nat) (listed : Array Bool) (a : Act) (w : World), (∀ j, l[j]? = ops[k + j]?) →
    Region.seqB md ops l.length k listed = true → wpTail P ops Q S m k l a w → wpAnyM P md ops Q S m l.length listed a w
  | [], _, _, _, _, _, hB, h => ⟨by simpa [Region.seqB] using hB, h⟩
  | o :: l, k, listed, a, w, hl, hB, h => by
    have h0 : ops[k]? = some o := by simpa using (hl 0).symm
    simp only [List.length_cons, Region.seqB, Bool.and_eq_true, decide_eq_true_eq] at hB
    refine ⟨fun h1 => (by rw [hB.1] at h1; cases h1), fun i hi => ?_⟩
    rw [hB.1] at hi
    have hik : i = k := by simpa using hi
    subst hik
    have hw : wpOp P ops Q i (fun a' w' => (i < m → S w') ∧ wpTail P ops Q S m (i + 1) l a' w') a w := by unfold wpOp; simp only [h0]; exact h
    exact wpOp_mono (fun a' w' h' => ⟨h'.1, wpAnyM_of_seq l (i + 1) _ a' w' (fun j => by have := hl (j + 1); simpa [Nat.add_assoc, Nat.add_comm 1 j] using this) hB.2 h'.2⟩) hw

theorem wpAnyM_lex (hsel : Region.noSelect ops = true) (hQ : ∀ c a d v w, Q (.panic c) (Act.put a d v) w → Q (.panic c) a w) (tl : List Oper) :
    ∀ (l : List Oper) (k : Nat) (listed : Array Bool) (a : Act) (w : World), (∀ j, (l ++ tl)[j]? = ops[k + j]?) → k + (l.length + tl.length) = ops.size →
      lexM md ops m l.length k listed = true → S w → wpRd P ops S (fun a' => wpTail P ops Q S m (k + l.length) tl a' w) l a → wpAnyM P md ops Q S m (l.length + tl.length) listed a w
  | [], k, listed, a, w, hl, hz, hB, hS, h => by
    simp only [List.length_nil, Nat.zero_add, lexM] at hB hz ⊢
    have e : ops.size - k = tl.length := by omega
    rw [e] at hB
    exact wpAnyM_of_seq tl k listed a w (by simpa using hl) hB h
  | o :: l, k, listed, a, w, hl, hz, hB, hS, h => by
    have h0 : ops[k]? = some o := by simpa using (hl 0).symm
    simp only [List.length_cons, lexM, Bool.and_eq_true, decide_eq_true_eq] at hB
    obtain ⟨⟨⟨⟨hkm, hr⟩, hf⟩, hlate⟩, hB⟩ := hB
    obtain ⟨v, hy, h⟩ := h
    have e : (o :: l).length + tl.length = (l.length + tl.length) + 1 := by simp; omega
    rw [e]
    refine wpAnyM_first h0 hkm (Region.noSelect_spec hsel) (fun c a w hq => hQ c a _ _ w hq) (fun j oj hj hmj => ?_) _ listed a w (Region.free_spec h0 hf) (by simpa using hr) hy hS ?_
    · have hjs : j < ops.size := (Array.getElem?_eq_some_iff.1 hj).1
      have := List.all_eq_true.1 hlate j (List.mem_range.2 hjs)
      simp only [Bool.or_eq_true, decide_eq_true_eq] at this
      obtain ⟨oj', hoj', e, he, hb, heq⟩ := Region.waitsFor_spec (this.resolve_left (by omega))
      rw [hj] at hoj'
      injection hoj' with hoj'
      subst hoj'
      exact ⟨e, he, hb, heq⟩
    · refine wpAnyM_lex hsel hQ tl l (k + 1) _ _ w (fun j => by have := hl (j + 1); simpa [Nat.add_assoc, Nat.add_comm 1 j] using this) (by simp at hz; omega) hB hS ?_
      have e2 : k + 1 + l.length = k + (o :: l).length := by simp; omega
      rw [e2]
      exact h

/-- n operations that read; the rest a forced chain of which the first ones, up to number m, must leave S. -/
theorem mix_tail {id : Nat} {a : Act} {w : World} {l : List Oper} (n m : Nat) (S : World → Prop) (hm : P.follows .mixedOrders = true) (hB : mixB .any l.toArray n m = true) (hQ : ∀ c a d v w, Q (.panic c) (Act.put a d v) w → Q (.panic c) a w)
    (hS : S w.drew) (h : wpRd P l.toArray S (fun a' => wpTail P l.toArray Q S m n (l.drop n) a' w.drew) (l.take n) a) : (Code.region id l.toArray true).wp P Q a w := by
  simp only [mixB, Bool.and_eq_true, decide_eq_true_eq] at hB
  obtain ⟨⟨hsel, hn⟩, hB⟩ := hB
  have hn' : n ≤ l.length := by simpa using hn
  refine wp_region_any hm (wpAny_of_m (S := S) (m := m) _ _ _ _ ?_)
  have hlen : (l.take n).length = n := by rw [List.length_take]; omega
  have := wpAnyM_lex (P := P) (md := .any) (ops := l.toArray) (Q := Q) (S := S) (m := m) hsel hQ (l.drop n) (l.take n) 0 (Array.replicate l.toArray.size false) a w.drew
    (fun j => by rw [List.take_append_drop]; simp) (by rw [hlen]; simp; omega) (by rw [hlen]; exact hB) hS (by rw [hlen, Nat.zero_add]; exact h)
  have e : (l.take n).length + (l.drop n).length = l.toArray.size := by rw [hlen]; simp; omega
  rw [e] at this
  exact this
end

/-! ### the same in a chosen order: reads (and what only computes) wherever they may come up, effects where nothing else may -/
section
variable {P : Program} {ops : Array Oper} {md : Region.Mode} {Q : Exit → Act → World → Prop} {S : World → Prop} {keep : List Nat}

def wpAnyK (P : Program) (md : Region.Mode) (ops : Array Oper) (Q : Exit → Act → World → Prop) (S : World → Prop) (keep : List Nat) : Nat → Array Bool → Act → World → Prop
  | 0, listed, a, w => Region.ready md ops listed = [] ∧ Q .normal a w
  | fuel + 1, listed, a, w =>
    (Region.ready md ops listed = [] → Q .normal a w) ∧
    ∀ i ∈ Region.ready md ops listed, wpOp P ops Q i (fun a' w' => (keep.contains i = true → S w') ∧ wpAnyK P md ops Q S keep fuel (listed.setIfInBounds i true) a' w') a w

theorem wpAny_of_k : ∀ (fuel : Nat) (listed : Array Bool) (a : Act) (w : World), wpAnyK P md ops Q S keep fuel listed a w → wpAny P md ops Q fuel listed a w
  | 0, _, _, _, h => h
  | fuel + 1, _, _, _, h => ⟨h.1, fun i hi => wpOp_mono (fun a' w' h' => wpAny_of_k fuel _ a' w' h'.2) (h.2 i hi)⟩

theorem wpAnyK_first {i : Nat} {oi : Oper} {v : Value} (hi : ops[i]? = some oi) (hsel : ∀ (j : Nat) (o : Oper) cs b, ops[j]? = some o → o.op ≠ .select cs b)
    (hQ : ∀ c a w, Q (.panic c) (a.put oi.dst v) w → Q (.panic c) a w) :
    ∀ (fuel : Nat) (listed : Array Bool) (a : Act) (w : World),
      (∀ j oj, ops[j]? = some oj → j ≠ i → listed.getD j true = false → (∀ e ∈ oj.after, Region.binds md e = true → e.on ≠ i) → oi.apart ops oj = true ∧ keep.contains j = true) →
      i ∈ Region.ready md ops listed → YieldsIf P ops S oi v a → S w →
      wpAnyK P md ops Q S keep fuel (listed.setIfInBounds i true) (a.put oi.dst v) w → wpAnyK P md ops Q S keep (fuel + 1) listed a w := by
  intro fuel
  induction fuel with
  | zero =>
    intro listed a w _ hr hy hS H
    refine ⟨fun h => (by rw [h] at hr; cases hr), fun j hj => ?_⟩
    by_cases hji : j = i
    · subst hji; exact hy.wpOp hi hS ⟨fun _ => hS, H⟩
    · have := ready_mono hj hji
      rw [H.1] at this
      cases this
  | succ fuel ih =>
    intro listed a w hfree hr hy hS H
    refine ⟨fun h => (by rw [h] at hr; cases hr), fun j hj => ?_⟩
    by_cases hji : j = i
    · subst hji; exact hy.wpOp hi hS ⟨fun _ => hS, H⟩
    · have h1 := H.2 j (ready_mono hj hji)
      obtain ⟨hjun, oj, hoj, hall⟩ := mem_ready.1 hj
      have hnot : ∀ e ∈ oj.after, Region.binds md e = true → e.on ≠ i := fun e he hb heq => by
        have h1 := hall e he hb
        have h0 := (mem_ready.1 hr).1
        rw [heq] at h1
        rcases Nat.lt_or_ge i listed.size with h' | h'
        · simp [h'] at h0 h1; rw [h0] at h1; cases h1
        · simp [Array.getElem?_eq_none h'] at h1
      obtain ⟨hap, hjk⟩ := hfree j oj hoj hji hjun hnot
      have h2 := wpOp_putIf hoj hap (fun cs b => hsel i oi cs b hi) (fun cs b => hsel j oj cs b hoj) hQ hy h1
      have hfree' : ∀ k ok, ops[k]? = some ok → k ≠ i → (listed.setIfInBounds j true).getD k true = false →
          (∀ e ∈ ok.after, Region.binds md e = true → e.on ≠ i) → oi.apart ops ok = true ∧ keep.contains k = true := fun k ok hk hki hun hno => by
        refine hfree k ok hk hki ?_ hno
        by_cases hjk : j = k
        · subst hjk; exact hjun
        · rw [getD_set_ne true hjk] at hun; exact hun
      refine wpOp_mono (fun a' w' h3 => ⟨fun _ => h3.2.1 hjk, ih (listed.setIfInBounds j true) a' w' hfree' (ready_mono hr (Ne.symm hji)) h3.1 (h3.2.1 hjk) ?_⟩) h2
      rw [Array.setIfInBounds_comm _ _ hji]
      exact h3.2.2

/-- The steps, in the chosen order: (its number, whether it only reads). -/
def wpSteps (P : Program) (ops : Array Oper) (Q : Exit → Act → World → Prop) (S : World → Prop) (keep : List Nat) : List (Nat × Bool) → Act → World → Prop
  | [], a, w => Q .normal a w
  | (k, true) :: rest, a, w => ∃ o v, ops[k]? = some o ∧ YieldsIf P ops S o v a ∧ wpSteps P ops Q S keep rest (a.put o.dst v) w
  | (k, false) :: rest, a, w => wpOp P ops Q k (fun a' w' => (keep.contains k = true → S w') ∧ wpSteps P ops Q S keep rest a' w') a w

def stepsB (md : Region.Mode) (ops : Array Oper) (keep : List Nat) : List (Nat × Bool) → Bool → Array Bool → Bool
  | [], _, listed => (Region.ready md ops listed).isEmpty
  | (k, true) :: rest, valid, listed => valid && (Region.ready md ops listed).contains k && Region.free md ops listed k && ((List.range ops.size).all fun j => listed.getD j true || j == k || keep.contains j || Region.waitsFor md ops j k) && stepsB md ops keep rest valid (listed.setIfInBounds k true)
  | (k, false) :: rest, valid, listed => decide (Region.ready md ops listed = [k]) && stepsB md ops keep rest (valid && keep.contains k) (listed.setIfInBounds k true)

theorem wpAnyK_steps (hsel : Region.noSelect ops = true) (hQ : ∀ c a d v w, Q (.panic c) (Act.put a d v) w → Q (.panic c) a w) :
    ∀ (st : List (Nat × Bool)) (valid : Bool) (listed : Array Bool) (a : Act) (w : World), stepsB md ops keep st valid listed = true → (valid = true → S w) → wpSteps P ops Q S keep st a w → wpAnyK P md ops Q S keep st.length listed a w
  | [], _, listed, a, w, hB, _, h => ⟨by simpa [stepsB] using hB, h⟩
  | (k, true) :: rest, valid, listed, a, w, hB, hS, h => by
    obtain ⟨o, v, h0, hy, h⟩ := h
    simp only [stepsB, Bool.and_eq_true] at hB
    obtain ⟨⟨⟨⟨hv, hr⟩, hf⟩, hk⟩, hB⟩ := hB
    refine wpAnyK_first h0 (Region.noSelect_spec hsel) (fun c a w hq => hQ c a _ _ w hq) _ listed a w (fun j oj hj hji hun hno => ⟨Region.free_spec h0 hf j oj hj hji hun hno, ?_⟩) (by simpa using hr) hy (hS hv) (wpAnyK_steps hsel hQ rest valid _ _ w hB hS h)
    have hjs : j < ops.size := (Array.getElem?_eq_some_iff.1 hj).1
    have h3 := List.all_eq_true.1 hk j (List.mem_range.2 hjs)
    simp only [Bool.or_eq_true] at h3
    rcases h3 with ((h3 | h3) | h3) | h3
    · rw [hun] at h3; cases h3
    · simp at h3; exact absurd h3 hji
    · exact h3
    · obtain ⟨oj', hoj', e, he, hb, heq⟩ := Region.waitsFor_spec h3
      rw [hj] at hoj'
      injection hoj' with hoj'
      subst hoj'
      exact absurd heq (hno e he hb)
  | (k, false) :: rest, valid, listed, a, w, hB, hS, h => by
    simp only [stepsB, Bool.and_eq_true, decide_eq_true_eq] at hB
    refine ⟨fun h1 => (by rw [hB.1] at h1; cases h1), fun i hi => ?_⟩
    rw [hB.1] at hi
    have hik : i = k := by simpa using hi
    subst hik
    exact wpOp_mono (fun a' w' h' => ⟨h'.1, wpAnyK_steps hsel hQ rest (valid && keep.contains i) _ a' w' hB.2 (fun hv => h'.1 (by simp at hv; simpa using hv.2)) h'.2⟩) h

theorem st_nil {a : Act} {w : World} (h : Q .normal a w) : wpSteps P ops Q S keep [] a w := h
theorem st_rd {k : Nat} {rest : List (Nat × Bool)} {o : Oper} {a : Act} {w : World} (v : Value) (ho : ops[k]? = some o) (hg : o.guard = none) (hv : ∀ W, S W → (execOp a.eval o).run P W = .ok (.value v) W) (h : wpSteps P ops Q S keep rest (a.put o.dst v) w) : wpSteps P ops Q S keep ((k, true) :: rest) a w :=
  ⟨o, v, ho, .inl ⟨by simp [Region.wanted, hg], hv⟩, h⟩
theorem st_skip {k : Nat} {rest : List (Nat × Bool)} {o : Oper} {a : Act} {w : World} (ho : ops[k]? = some o) (hg : Region.wanted o (yielded ops a.tmps) = false) (h : wpSteps P ops Q S keep rest (a.put o.dst undef) w) : wpSteps P ops Q S keep ((k, true) :: rest) a w :=
  ⟨o, undef, ho, .inr ⟨hg, rfl⟩, h⟩
theorem st_eff {k : Nat} {rest : List (Nat × Bool)} {o : Oper} {a : Act} {w : World} (ho : ops[k]? = some o) (hg : o.guard = none)
    (h : ∀ K : Act → World → Prop, (∀ a' w', (keep.contains k = true → S w') → wpSteps P ops Q S keep rest a' w' → K a' w') → o.wp P a w K Q) : wpSteps P ops Q S keep ((k, false) :: rest) a w := by
  show wpOp P ops Q k _ a w
  unfold wpOp
  simp only [ho, if_pos (show Region.wanted o (yielded ops a.tmps) = true from by simp [Region.wanted, hg])]
  exact .inl (h _ (fun _ _ h1 h2 => ⟨h1, h2⟩))
theorem st_late (rest : List (Nat × Bool)) : ∀ {l : List Oper} {a : Act} {w : World}, (rest.all fun s => !s.2 && !keep.contains s.1) = true → rest.map (fun s => ops[s.1]?) = l.map some → wpList P ops Q l a w → wpSteps P ops Q S keep rest a w := by
  induction rest with
  | nil =>
    intro l a w _ hl h
    cases l with
    | nil => exact h
    | cons o l => simp at hl
  | cons s rest ih =>
    intro l a w hb hl h
    obtain ⟨k, b⟩ := s
    cases l with
    | nil => simp at hl
    | cons o l =>
      simp only [List.all_cons, Bool.and_eq_true, Bool.not_eq_true'] at hb
      simp only [List.map_cons, List.cons.injEq] at hl
      obtain ⟨⟨hb1, hk⟩, hb⟩ := hb
      subst hb1
      have hw : wpOp P ops Q k (wpList P ops Q l) a w := by unfold wpOp; simp only [hl.1]; exact h
      exact wpOp_mono (fun a w h2 => ⟨fun h3 => (by rw [hk] at h3; cases h3), ih hb hl.2 h2⟩) hw

def stB (md : Region.Mode) (ops : Array Oper) (keep : List Nat) (st : List (Nat × Bool)) : Bool := Region.noSelect ops && decide (st.length = ops.size) && stepsB md ops keep st true (Array.replicate ops.size false)

/-- A step whose value no world has a say in. -/
theorem st_pure {k : Nat} {rest : List (Nat × Bool)} {o : Oper} {a : Act} {w : World} (ho : ops[k]? = some o)
    (h : ∀ K : Act → Prop, (∀ a', wpSteps P ops Q S keep rest a' w → K a') → if Region.wanted o (yielded ops a.tmps) then (∃ v, (∀ W, (execOp a.eval o).run P W = .ok (.value v) W) ∧ K (a.put o.dst v)) else K (a.put o.dst undef)) : wpSteps P ops Q S keep ((k, true) :: rest) a w := by
  have h' := h (fun a' => wpSteps P ops Q S keep rest a' w) (fun _ h => h)
  by_cases hw : Region.wanted o (yielded ops a.tmps) = true
  · rw [if_pos hw] at h'
    obtain ⟨v, hv, h'⟩ := h'
    exact ⟨o, v, ho, .inl ⟨hw, fun W _ => hv W⟩, h'⟩
  · rw [if_neg hw] at h'
    exact ⟨o, undef, ho, .inr ⟨by simpa using hw, rfl⟩, h'⟩
theorem st_rdg {k : Nat} {rest : List (Nat × Bool)} {o : Oper} {a : Act} {w : World} (v : Value) (ho : ops[k]? = some o) (hg : Region.wanted o (yielded ops a.tmps) = true) (hv : ∀ W, S W → (execOp a.eval o).run P W = .ok (.value v) W) (h : ∀ K : Act → Prop, (∀ a', wpSteps P ops Q S keep rest a' w → K a') → K (a.put o.dst v)) : wpSteps P ops Q S keep ((k, true) :: rest) a w :=
  ⟨o, v, ho, .inl ⟨hg, hv⟩, h _ (fun _ h => h)⟩
theorem st_effg {k : Nat} {rest : List (Nat × Bool)} {o : Oper} {a : Act} {w : World} (ho : ops[k]? = some o) (hg : Region.wanted o (yielded ops a.tmps) = true)
    (h : ∀ K : Act → World → Prop, (∀ a' w', (keep.contains k = true → S w') → wpSteps P ops Q S keep rest a' w' → K a' w') → o.wp P a w K Q) : wpSteps P ops Q S keep ((k, false) :: rest) a w := by
  show wpOp P ops Q k _ a w
  unfold wpOp
  simp only [ho, if_pos hg]
  exact .inl (h _ (fun _ _ h1 h2 => ⟨h1, h2⟩))
/-- The region in a chosen order. -/
theorem mix {id : Nat} {ops : Array Oper} {a : Act} {w : World} (st : List (Nat × Bool)) (keep : List Nat) (S : World → Prop) (hm : P.follows .mixedOrders = true) (hB : stB .any ops keep st = true) (hQ : ∀ c a d v w, Q (.panic c) (Act.put a d v) w → Q (.panic c) a w)
    (hS : S w.drew) (h : wpSteps P ops Q S keep st a w.drew) : (Code.region id ops true).wp P Q a w := by
  simp only [stB, Bool.and_eq_true, decide_eq_true_eq] at hB
  obtain ⟨⟨hsel, hn⟩, hB⟩ := hB
  refine wp_region_any hm (wpAny_of_k (S := S) (keep := keep) _ _ _ _ ?_)
  have := wpAnyK_steps (P := P) (md := .any) (ops := ops) (Q := Q) (S := S) (keep := keep) hsel hQ st true (Array.replicate ops.size false) a w.drew hB (fun _ => hS) h
  rw [hn] at this
  exact this
end
end Go.Proofs.Ytjlddhnjbjhmkaa
namespace Go.Proofs.Ytjlddhnjbjhmkaa
open Go.RowKit

/-- The order that is walked: reads; an effect that nothing else may come ahead of; two effects, either of which may come first. -/
inductive Plan where
  | done : Plan
  | rd : Nat → Plan → Plan
  | eff : Nat → Plan → Plan
  | two : Nat → Plan → Nat → Plan → Plan
def Plan.len : Plan → Nat
  | .done => 0
  | .rd _ p => p.len + 1
  | .eff _ p => p.len + 1
  | .two _ p _ _ => p.len + 1

section
variable {P : Program} {ops : Array Oper} {md : Region.Mode} {Q : Exit → Act → World → Prop} {S : World → Prop} {keep : List Nat}

def wpPlan (P : Program) (ops : Array Oper) (Q : Exit → Act → World → Prop) (S : World → Prop) (keep : List Nat) : Plan → Act → World → Prop
  | .done, a, w => Q .normal a w
  | .rd k p, a, w => ∃ o v, ops[k]? = some o ∧ YieldsIf P ops S o v a ∧ wpPlan P ops Q S keep p (a.put o.dst v) w
  | .eff k p, a, w => wpOp P ops Q k (fun a' w' => (keep.contains k = true → S w') ∧ wpPlan P ops Q S keep p a' w') a w
  | .two k p k2 p2, a, w => wpOp P ops Q k (fun a' w' => (keep.contains k = true → S w') ∧ wpPlan P ops Q S keep p a' w') a w ∧
      wpOp P ops Q k2 (fun a' w' => (keep.contains k2 = true → S w') ∧ wpPlan P ops Q S keep p2 a' w') a w

def planB (md : Region.Mode) (ops : Array Oper) (keep : List Nat) : Plan → Bool → Array Bool → Bool
  | .done, _, listed => (Region.ready md ops listed).isEmpty
  | .rd k p, valid, listed => valid && (Region.ready md ops listed).contains k && Region.free md ops listed k && ((List.range ops.size).all fun j => listed.getD j true || j == k || keep.contains j || Region.waitsFor md ops j k) && planB md ops keep p valid (listed.setIfInBounds k true)
  | .eff k p, valid, listed => decide (Region.ready md ops listed = [k]) && planB md ops keep p (valid && keep.contains k) (listed.setIfInBounds k true)
  | .two k p k2 p2, valid, listed => decide (Region.ready md ops listed = [k, k2]) && decide (p.len = p2.len) && planB md ops keep p (valid && keep.contains k) (listed.setIfInBounds k true) && planB md ops keep p2 (valid && keep.contains k2) (listed.setIfInBounds k2 true)

theorem wpAnyK_plan (hsel : Region.noSelect ops = true) (hQ : ∀ c a d v w, Q (.panic c) (Act.put a d v) w → Q (.panic c) a w) :
    ∀ (p : Plan) (valid : Bool) (listed : Array Bool) (a : Act) (w : World), planB md ops keep p valid listed = true → (valid = true → S w) → wpPlan P ops Q S keep p a w → wpAnyK P md ops Q S keep p.len listed a w
  | .done, _, listed, a, w, hB, _, h => ⟨by simpa [planB] using hB, h⟩
  | .rd k p, valid, listed, a, w, hB, hS, h => by
    obtain ⟨o, v, h0, hy, h⟩ := h
    simp only [planB, Bool.and_eq_true] at hB
    obtain ⟨⟨⟨⟨hv, hr⟩, hf⟩, hk⟩, hB⟩ := hB
    refine wpAnyK_first h0 (Region.noSelect_spec hsel) (fun c a w hq => hQ c a _ _ w hq) _ listed a w (fun j oj hj hji hun hno => ⟨Region.free_spec h0 hf j oj hj hji hun hno, ?_⟩) (by simpa using hr) hy (hS hv) (wpAnyK_plan hsel hQ p valid _ _ w hB hS h)
    have hjs : j < ops.size := (Array.getElem?_eq_some_iff.1 hj).1
    have h3 := List.all_eq_true.1 hk j (List.mem_range.2 hjs)
    simp only [Bool.or_eq_true] at h3
    rcases h3 with ((h3 | h3) | h3) | h3
    · rw [hun] at h3; cases h3
    · simp at h3; exact absurd h3 hji
    · exact h3
    · obtain ⟨oj', hoj', e, he, hb, heq⟩ := Region.waitsFor_spec h3
      rw [hj] at hoj'
      injection hoj' with hoj'
      subst hoj'
      exact absurd heq (hno e he hb)
  | .eff k p, valid, listed, a, w, hB, hS, h => by
    simp only [planB, Bool.and_eq_true, decide_eq_true_eq] at hB
    refine ⟨fun h1 => (by rw [hB.1] at h1; cases h1), fun i hi => ?_⟩
    rw [hB.1] at hi
    have hik : i = k := by simpa using hi
    subst hik
    exact wpOp_mono (fun a' w' h' => ⟨h'.1, wpAnyK_plan hsel hQ p (valid && keep.contains i) _ a' w' hB.2 (fun hv => h'.1 (by simp at hv; simpa using hv.2)) h'.2⟩) h
  | .two k p k2 p2, valid, listed, a, w, hB, hS, h => by
    simp only [planB, Bool.and_eq_true, decide_eq_true_eq] at hB
    obtain ⟨⟨⟨hr, hlen⟩, hB1⟩, hB2⟩ := hB
    refine ⟨fun h1 => (by rw [hr] at h1; cases h1), fun i hi => ?_⟩
    rw [hr] at hi
    have hik : i = k ∨ i = k2 := by simpa using hi
    rcases hik with rfl | rfl
    · exact wpOp_mono (fun a' w' h' => ⟨h'.1, wpAnyK_plan hsel hQ p (valid && keep.contains i) _ a' w' hB1 (fun hv => h'.1 (by simp at hv; simpa using hv.2)) h'.2⟩) h.1
    · exact wpOp_mono (fun a' w' h' => ⟨h'.1, by rw [hlen]; exact wpAnyK_plan hsel hQ p2 (valid && keep.contains i) _ a' w' hB2 (fun hv => h'.1 (by simp at hv; simpa using hv.2)) h'.2⟩) h.2

theorem pl_done {a : Act} {w : World} (h : Q .normal a w) : wpPlan P ops Q S keep .done a w := h
theorem pl_pure {k : Nat} {p : Plan} {o : Oper} {a : Act} {w : World} (ho : ops[k]? = some o)
    (h : ∀ K : Act → Prop, (∀ a', wpPlan P ops Q S keep p a' w → K a') → if Region.wanted o (yielded ops a.tmps) then (∃ v, (∀ W, (execOp a.eval o).run P W = .ok (.value v) W) ∧ K (a.put o.dst v)) else K (a.put o.dst undef)) : wpPlan P ops Q S keep (.rd k p) a w := by
  have h' := h (fun a' => wpPlan P ops Q S keep p a' w) (fun _ h => h)
  by_cases hw : Region.wanted o (yielded ops a.tmps) = true
  · rw [if_pos hw] at h'
    obtain ⟨v, hv, h'⟩ := h'
    exact ⟨o, v, ho, .inl ⟨hw, fun W _ => hv W⟩, h'⟩
  · rw [if_neg hw] at h'
    exact ⟨o, undef, ho, .inr ⟨by simpa using hw, rfl⟩, h'⟩
theorem pl_rd {k : Nat} {p : Plan} {o : Oper} {a : Act} {w : World} (v : Value) (ho : ops[k]? = some o) (hg : Region.wanted o (yielded ops a.tmps) = true) (hv : ∀ W, S W → (execOp a.eval o).run P W = .ok (.value v) W) (h : ∀ K : Act → Prop, (∀ a', wpPlan P ops Q S keep p a' w → K a') → K (a.put o.dst v)) : wpPlan P ops Q S keep (.rd k p) a w :=
  ⟨o, v, ho, .inl ⟨hg, hv⟩, h _ (fun _ h => h)⟩
theorem pl_op {k : Nat} {p : Plan} {o : Oper} {a : Act} {w : World} (ho : ops[k]? = some o) (hg : Region.wanted o (yielded ops a.tmps) = true)
    (h : ∀ K : Act → World → Prop, (∀ a' w', (keep.contains k = true → S w') → wpPlan P ops Q S keep p a' w' → K a' w') → o.wp P a w K Q) : wpOp P ops Q k (fun a' w' => (keep.contains k = true → S w') ∧ wpPlan P ops Q S keep p a' w') a w := by
  unfold wpOp
  simp only [ho, if_pos hg]
  exact .inl (h _ (fun _ _ h1 h2 => ⟨h1, h2⟩))
theorem pl_two {k k2 : Nat} {p p2 : Plan} {a : Act} {w : World} (h1 : wpOp P ops Q k (fun a' w' => (keep.contains k = true → S w') ∧ wpPlan P ops Q S keep p a' w') a w)
    (h2 : wpOp P ops Q k2 (fun a' w' => (keep.contains k2 = true → S w') ∧ wpPlan P ops Q S keep p2 a' w') a w) : wpPlan P ops Q S keep (.two k p k2 p2) a w := ⟨h1, h2⟩
theorem pl_eff {k : Nat} {p : Plan} {o : Oper} {a : Act} {w : World} (ho : ops[k]? = some o) (hg : Region.wanted o (yielded ops a.tmps) = true)
    (h : ∀ K : Act → World → Prop, (∀ a' w', (keep.contains k = true → S w') → wpPlan P ops Q S keep p a' w' → K a' w') → o.wp P a w K Q) : wpPlan P ops Q S keep (.eff k p) a w := pl_op ho hg h

def plB (md : Region.Mode) (ops : Array Oper) (keep : List Nat) (p : Plan) : Bool := Region.noSelect ops && decide (p.len = ops.size) && planB md ops keep p true (Array.replicate ops.size false)
/-- The region by a plan. -/
theorem plan {id : Nat} {ops : Array Oper} {a : Act} {w : World} (p : Plan) (keep : List Nat) (S : World → Prop) (hm : P.follows .mixedOrders = true) (hB : plB .any ops keep p = true) (hQ : ∀ c a d v w, Q (.panic c) (Act.put a d v) w → Q (.panic c) a w)
    (hS : S w.drew) (h : wpPlan P ops Q S keep p a w.drew) : (Code.region id ops true).wp P Q a w := by
  simp only [plB, Bool.and_eq_true, decide_eq_true_eq] at hB
  obtain ⟨⟨hsel, hn⟩, hB⟩ := hB
  refine wp_region_any hm (wpAny_of_k (S := S) (keep := keep) _ _ _ _ ?_)
  have := wpAnyK_plan (P := P) (md := .any) (ops := ops) (Q := Q) (S := S) (keep := keep) hsel hQ p true (Array.replicate ops.size false) a w.drew hB (fun _ => hS) h
  rw [hn] at this
  exact this
end
end Go.Proofs.Ytjlddhnjbjhmkaa
namespace Go.Proofs.Ytjlddhnjbjhmkaa
open Go.RowKit

/-! ### a block, cell by cell -/
/-- Block g of type t: N cells, which F tells. -/
def Blk (w : World) (g : Nat) (t : TypeId) (N : Nat) (F : Nat → Value) : Prop := ∃ cs : Array Value, w.heap[g]? = some (.cells cs t (0, 0)) ∧ cs.size = N ∧ ∀ j, j < N → cs[j]? = some (F j)
theorem Blk.lt {w : World} {g : Nat} {t : TypeId} {N : Nat} {F : Nat → Value} (h : Blk w g t N F) : g < w.heap.size := by
  obtain ⟨cs, h, _⟩ := h
  exact (Array.getElem?_eq_some_iff.1 h).1
theorem Blk.cell {w : World} {g : Nat} {t : TypeId} {N : Nat} {F : Nat → Value} (h : Blk w g t N F) (j : Nat) (hj : j < N) : w.cell? ⟨g, j, none⟩ = some (F j) := by
  obtain ⟨cs, h, _, hF⟩ := h
  rw [cell_of_row w g j cs t _ h]
  exact hF j hj
theorem Blk.frozen {w : World} {g : Nat} {t : TypeId} {N : Nat} {F : Nat → Value} (h : Blk w g t N F) (j : Nat) : w.frozen? ⟨g, j, none⟩ = false := by
  obtain ⟨cs, h, _, hF⟩ := h
  exact frozen_of_row w g j cs t h
theorem Blk.keep {M : Nat → Prop} {w w1 : World} {g : Nat} {t : TypeId} {N : Nat} {F : Nat → Value} (h : Blk w g t N F) (hk : Kp M w w1) (hM : ¬ M g) : Blk w1 g t N F := by
  have hl := h.lt
  obtain ⟨cs, h, r⟩ := h
  exact ⟨cs, (hk.block g hl hM).trans h, r⟩
theorem Blk.below {w w1 : World} {g : Nat} {t : TypeId} {N : Nat} {F : Nat → Value} (h : Blk w g t N F) (hb : Below w.heap.size w w1) : Blk w1 g t N F := h.keep (Kp.of_below hb No) (fun h => h)
theorem Blk.congr {w : World} {g : Nat} {t : TypeId} {N : Nat} {F G : Nat → Value} (h : Blk w g t N F) (hFG : ∀ j, j < N → F j = G j) : Blk w g t N G := by
  obtain ⟨cs, h, hs, hF⟩ := h
  exact ⟨cs, h, hs, fun j hj => by rw [← hFG j hj]; exact hF j hj⟩
theorem Blk.set {w : World} {g : Nat} {t : TypeId} {N : Nat} {F : Nat → Value} (h : Blk w g t N F) (k : Nat) (v : Value) : Blk (w.setCell ⟨g, k, none⟩ v) g t N (fun j => if j = k then v else F j) := by
  obtain ⟨cs, h, hs, hF⟩ := h
  refine ⟨_, heap_setCell_same w g k cs t v h, by simp [hs], fun j hj => ?_⟩
  show _ = some (if j = k then v else F j)
  by_cases e : j = k
  · subst e
    simp [hs, hj]
  · rw [if_neg e, Array.getElem?_setIfInBounds_ne (by omega)]
    exact hF j hj
theorem Blk.new (w : World) (t : TypeId) (cs : Array Value) (N : Nat) (hN : cs.size = N) (F : Nat → Value) (hF : ∀ j, j < N → cs[j]? = some (F j)) : Blk (w.alloc (.cells cs t)) w.heap.size t N F := ⟨cs, heap_alloc_new _ _, hN, hF⟩

def upd {α : Type} (f : Nat → α) (n : Nat) (v : α) : Nat → α := fun i => if i = n then v else f i
/-- What an Op makes of two words. -/
def op2 (op d s : Nat) : Nat :=
  if op ≤ 2 then s else if op ≤ 4 then (d + s) % 4294967296 else if op = 5 then (d + 4294967296 - s) % 4294967296 else if op ≤ 7 then d * s % 4294967296
  else if op ≤ 9 then d &&& s else if op = 10 then d ||| s else if op = 11 then d ^^^ s else if op = 12 then d * 2 ^ min s 32 % 4294967296 else if op = 13 then d / 2 ^ min s 32
  else if op = 14 then d / s else d % s
theorem wrapU32 (n : Int) : IntKind.u32.wrap n = n % 4294967296 := by simp [IntKind.wrap, IntKind.bits, IntKind.signed]
theorem op2_lt (op d s : Nat) (hd : d < 4294967296) (hs : s < 4294967296) : op2 op d s < 4294967296 := by
  unfold op2
  have h1 : d &&& s < 2 ^ 32 := Nat.and_lt_two_pow _ (by omega)
  have h2 : d ||| s < 2 ^ 32 := Nat.or_lt_two_pow (by omega) (by omega)
  have h3 : d ^^^ s < 2 ^ 32 := Nat.xor_lt_two_pow (by omega) (by omega)
  have h4 : d / 2 ^ min s 32 ≤ d := Nat.div_le_self _ _
  have h5 : d / s ≤ d := Nat.div_le_self _ _
  have h6 : d % s ≤ d := Nat.mod_le _ _
  repeat' split
  all_goals omega
structure Ins8 where
  op : Nat
  dst : Nat
  src : Nat
  off : Int
  imm : Nat
structure Ins8.May (i : Ins8) : Prop where
  op1 : 1 ≤ i.op
  op2 : i.op ≤ 24
  dst : i.dst < 10
  src : i.src < 10
  off1 : -32768 ≤ i.off
  off2 : i.off ≤ 32767
  jmp : 19 ≤ i.op → 0 ≤ i.off ∧ i.off ≤ 255
  imm : i.imm < 4294967296
def Ins8.useImm (i : Ins8) : Bool := i.op == 1 || i.op == 3 || i.op == 6 || i.op == 8 || i.op == 12 || i.op == 13 || i.op == 20 || i.op == 21
theorem Kp.cell {M : Nat → Prop} {w w1 : World} (h : Kp M w w1) {a : Addr} {v : Value} (hc : w.cell? a = some v) (hM : ¬ M a.block) : w1.cell? a = some v :=
  (World.cell?_of_block (h.block a.block (World.block_lt_of_cell? w a hc) hM)).trans hc
theorem wpList_value {ops : Array Oper} {rest : List Oper} {o : Oper} {a : Act} {w w' : World} {Q : Exit → Act → World → Prop} (v : Value) (hgd : o.guard = none) (h : (execOp a.eval o).run Try.prog w = .ok (.value v) w')
    (hk : wpList Try.prog ops Q rest (a.put o.dst v) w') : wpList Try.prog ops Q (o :: rest) a w :=
  wpList_plain hgd fun _ hK => by unfold Oper.wp; rw [h]; exact hK _ _ hk
theorem wp_value {P : Program} {o : Oper} {a : Act} {w w' : World} {K : Act → World → Prop} {Q : Exit → Act → World → Prop} (v : Value) (h : (execOp a.eval o).run P w = .ok (.value v) w') (hk : K (a.put o.dst v) w') : o.wp P a w K Q := by
  unfold Oper.wp
  rw [h]
  exact hk
theorem wpList_wanted {P : Program} {ops : Array Oper} {Q : Exit → Act → World → Prop} {a : Act} {w : World} {rest : List Oper} {o : Oper} (hg : Region.wanted o (yielded ops a.tmps) = true)
    (h : ∀ K : Act → World → Prop, (∀ a w, wpList P ops Q rest a w → K a w) → o.wp P a w K Q) : wpList P ops Q (o :: rest) a w := by
  unfold wpList
  rw [if_pos hg]
  exact .inl (h _ fun _ _ h => h)
theorem wpList_valueg {P : Program} {ops : Array Oper} {rest : List Oper} {o : Oper} {a : Act} {w w' : World} {Q : Exit → Act → World → Prop} (v : Value) (hg : Region.wanted o (yielded ops a.tmps) = true) (h : (execOp a.eval o).run P w = .ok (.value v) w')
    (hk : wpList P ops Q rest (a.put o.dst v) w') : wpList P ops Q (o :: rest) a w :=
  wpList_wanted hg fun K hK => wp_value v h (hK _ _ hk)
theorem wpList_store_new {P : Program} {ops : Array Oper} {rest : List Oper} {o : Oper} {a : Act} {w : World} {Q : Exit → Act → World → Prop} (hgd : o.guard = none) (ty : TypeId) (x y : Operand) (ho : o.op = .store ty x y) (c c' : Array Value)
    (hx : a.eval x = .pointer (some ⟨w.heap.size, 0, none⟩)) (hy : a.eval y = .agg c') (hi : (P.info? ty).map (·.size) = some c'.size) (hs : c.size = c'.size) (h1 : c'.all (·.oneCell') = true)
    (h : wpList P ops Q rest (a.put o.dst undef) (w.alloc (.cells c' ty))) : wpList P ops Q (o :: rest) a (w.alloc (.cells c ty)) :=
  wpList_plain hgd fun K hK => by
    unfold Oper.wp execOp
    simp only [ho, hx, hy, Sem.run_bind, Sem.run_pure, Result.andThen_ok, run_storeAt_new w ty c c' hi hs h1]
    exact hK _ _ h
theorem Kp.setCells {M : Nat → Prop} {w : World} {b : Nat} (hb : M b ∨ w.heap.size ≤ b) : ∀ (vs : List Value) (o : Nat) (w1 : World), Kp M w w1 → Kp M w (w1.setCells b o vs)
  | [], _, _, h => h
  | v :: r, o, w1, h => Kp.setCells hb r (o + 1) _ (h.setCell (p := ⟨b, o, none⟩) hb v)
theorem there_blk {w : World} {g : Nat} {t : TypeId} {N : Nat} {F : Nat → Value} (h : Blk w g t N F) : w.there g 0 N := fun j hj => ⟨by rw [Nat.zero_add, h.cell j hj]; rfl, by rw [Nat.zero_add]; exact h.frozen j⟩
theorem Blk.lit (w : World) (t : TypeId) (cs : Array Value) : Blk (w.alloc (.cells cs t)) w.heap.size t cs.size (fun j => cs.getD j undef) :=
  Blk.new w t cs cs.size rfl _ fun j hj => by simp [Array.getD, hj]
def rowF (N : Nat) (F : Nat → Value) : List Value := (List.range N).map F
theorem rowF_length (N : Nat) (F : Nat → Value) : (rowF N F).length = N := by simp [rowF]
theorem rowF_get (N : Nat) (F : Nat → Value) (j : Nat) (hj : j < N) : (rowF N F)[j]? = some (F j) := by simp [rowF, List.getElem?_range hj]
theorem rowF_one (N : Nat) (F : Nat → Value) (h : ∀ j, j < N → (F j).oneCell' = true) : (rowF N F).toArray.all (·.oneCell') = true := by
  rw [List.all_toArray, List.all_eq_true]
  intro u hu
  obtain ⟨j, hj, rfl⟩ := List.mem_map.1 hu
  exact h j (List.mem_range.1 hj)
theorem Blk.range {w : World} {g : Nat} {t : TypeId} {N : Nat} {F : Nat → Value} (h : Blk w g t N F) : w.rangeAt g 0 (rowF N F) := fun j v hv => by
  have hj : j < N := by
    rcases Nat.lt_or_ge j N with h | h
    · exact h
    · rw [List.getElem?_eq_none (by rw [rowF_length]; exact h)] at hv; cases hv
  rw [rowF_get N F j hj] at hv
  injection hv with hv
  rw [← hv, Nat.zero_add]
  exact h.cell j hj
theorem Blk.rangeAt {w : World} {g : Nat} {t : TypeId} {N : Nat} {F : Nat → Value} (h : Blk w g t N F) (o n : Nat) (ho : o + n ≤ N) : w.rangeAt g o (rowF n (fun j => F (o + j))) := fun j v hv => by
  have hj : j < n := by
    rcases Nat.lt_or_ge j n with h | h
    · exact h
    · rw [List.getElem?_eq_none (by rw [rowF_length]; exact h)] at hv; cases hv
  rw [rowF_get n _ j hj] at hv
  injection hv with hv
  rw [← hv]
  exact h.cell (o + j) (by omega)
theorem Blk.boxed (w : World) (t : TypeId) (N : Nat) (F : Nat → Value) : Blk (w.alloc (.cells (rowF N F).toArray t)) w.heap.size t N F :=
  Blk.new w t _ N (by simp [rowF]) F fun j hj => by rw [List.getElem?_toArray]; exact rowF_get N F j hj
theorem Blk.setCells {g : Nat} {t : TypeId} {N : Nat} : ∀ (vs : List Value) (o : Nat) (w : World) (F : Nat → Value), Blk w g t N F → Blk (w.setCells g o vs) g t N (fun j => if o ≤ j ∧ j < o + vs.length then vs.getD (j - o) undef else F j)
  | [], o, w, F, h => h.congr fun j _ => by rw [if_neg (by simp)]
  | v :: vs, o, w, F, h => by
    refine (Blk.setCells vs (o + 1) _ _ (h.set o v)).congr fun j hj => ?_
    by_cases h1 : o + 1 ≤ j ∧ j < o + 1 + vs.length
    · rw [if_pos h1, if_pos (by simp; omega), show j - o = (j - (o + 1)) + 1 from by omega, List.getD_cons_succ]
    · rw [if_neg h1]
      by_cases h2 : j = o
      · subst h2
        simp
      · rw [if_neg h2, if_neg (by simp; omega)]
theorem Blk.fill {w : World} {g : Nat} {t : TypeId} {N : Nat} {F : Nat → Value} (h : Blk w g t N F) (G : Nat → Value) : Blk (w.setCells g 0 (rowF N G)) g t N G :=
  (Blk.setCells _ 0 _ _ h).congr fun j hj => by
    rw [if_pos ⟨Nat.zero_le _, by rw [rowF_length]; omega⟩, List.getD_eq_getElem?_getD, Nat.sub_zero, rowF_get N G j hj]; rfl
theorem rowF_ext (N : Nat) {F G : Nat → Value} (h : ∀ j, j < N → F j = G j) : rowF N F = rowF N G := List.map_congr_left fun j hj => h j (List.mem_range.1 hj)
theorem rg_below {W W1 : World} {g o : Nat} {cs : List Value} (h : W.rangeAt g o cs) (hb : Below W.heap.size W W1) : W1.rangeAt g o cs := fun j v hv => (Kp.of_below hb No).cell (h j v hv) (fun e => e)
/-- A value of more cells, read. -/
theorem run_load_at {P : Program} {w : World} (a : Addr) (ty : TypeId) (cs : List Value) (d : TypeDesc) (hc : ∀ j v, cs[j]? = some v → w.cell? (a.add j) = some v)
    (hu : P.underlying ty = some d) (hd : (match d with | .struct _ | .array _ _ => true | _ => false) = true) (hi : (P.info? ty).map (·.size) = some cs.length) :
    (loadVar ty a).run P w = .ok (.agg cs.toArray) w := by
  have hl : (loadCells a cs.length).run P w = .ok cs.toArray w := run_loadCells_list (P := P) w a cs hc
  cases hq : P.info? ty with
  | none => simp [hq] at hi
  | some i =>
    have hs : i.size = cs.length := by simpa [hq] using hi
    have hagg : (isAgg ty).run P w = .ok true w := by
      unfold isAgg
      rw [Sem.run_bind, run_underlying hu w]
      cases d <;> simp_all
    simp [loadVar, Sem.run_bind, hagg, sizeOf, typeInfo, hq, hs, hl]
theorem exec_load_at {P : Program} {w : World} {o : Oper} {ac : Act} (ty : TypeId) (x : Operand) (ho : o.op = .load ty x) (a : Addr) (hx : ac.eval x = .pointer (some a)) (cs : List Value) (d : TypeDesc) (hc : ∀ j v, cs[j]? = some v → w.cell? (a.add j) = some v)
    (hu : P.underlying ty = some d) (hd : (match d with | .struct _ | .array _ _ => true | _ => false) = true) (hi : (P.info? ty).map (·.size) = some cs.length) :
    (execOp ac.eval o).run P w = .ok (.value (.agg cs.toArray)) w := by
  unfold execOp
  simp only [ho, hx, Instr.loadAt, Instr.sureAddr, Sem.run_bind, Sem.run_pure, Result.andThen_ok, run_load_at a ty cs d hc hu hd hi]
def insCells (i : Ins8) : List Value := [.int .i64 (i.op : Int), .int .i64 (i.dst : Int), .int .i64 (i.src : Int), .int .i64 i.off, .int .u32 (i.imm : Int)]
theorem size_ins : (Try.prog.info? 45).map (·.size) = some 5 := by kernel_rfl
theorem bcell {W w1 : World} (hb : Below W.heap.size W w1) : (∀ b o, b < W.heap.size → w1.cell? ⟨b, o, none⟩ = W.cell? ⟨b, o, none⟩) ∧ (∀ b o, b < W.heap.size → w1.frozen? ⟨b, o, none⟩ = W.frozen? ⟨b, o, none⟩) :=
  ⟨fun b o h => hb.cell (p := ⟨b, o, none⟩) h, fun b o h => hb.frozen (p := ⟨b, o, none⟩) h⟩
end Go.Proofs.Ytjlddhnjbjhmkaa
namespace Go.Proofs.Ytjlddhnjbjhmkaa
open Go.RowKit

/-- The value of one result that lies in a block, whole. -/
theorem results_cell1_range {P : Program} {fn : Func} {p : Tmp} {ty : TypeId} (h : fn.results = #[.cell p ty]) (tmps : Array Value) (w : World) (g o : Nat) (cs : List Value) (d : TypeDesc)
    (hp : tmps.getD p undef = .pointer (some ⟨g, o, none⟩)) (hc : w.rangeAt g o cs) (hu : P.underlying ty = some d) (hd : d.isRow = true) (hi : (P.info? ty).map (·.size) = some cs.length) :
    (results fn tmps).run P w = .ok (.agg cs.toArray) w := by
  have hp' : tmps[p]?.getD undef = .pointer (some ⟨g, o, none⟩) := by simpa using hp
  simp [results, h, hp', asAddr, run_loadVar_mid w g o ty cs d hc hu hd hi]
theorem exec_load_mid {P : Program} {o : Oper} {ac : Act} {w : World} (ty : TypeId) (x : Operand) (ho : o.op = .load ty x) (b k : Nat) (hx : ac.eval x = .pointer (some ⟨b, k, none⟩)) (cs : List Value) (d : TypeDesc) (hc : w.rangeAt b k cs)
    (hu : P.underlying ty = some d) (hd : d.isRow = true) (hi : (P.info? ty).map (·.size) = some cs.length) : (execOp ac.eval o).run P w = .ok (.value (.agg cs.toArray)) w := by
  unfold execOp
  simp only [ho, hx, Instr.loadAt, Instr.sureAddr, Sem.run_bind, Sem.run_pure, Result.andThen_ok, run_loadVar_mid w b k ty cs d hc hu hd hi]
end Go.Proofs.Ytjlddhnjbjhmkaa
namespace Go.Proofs.Ytjlddhnjbjhmkaa
open Go.RowKit

/-- The order that is walked: reads; an effect that nothing else may come ahead of; some effects (with their slots) in any order. -/
inductive PlanM where
  | done : PlanM
  | rd : Nat → PlanM → PlanM
  | eff : Nat → PlanM → PlanM
  | many : List (Nat × Option Tmp) → PlanM → PlanM
def PlanM.len : PlanM → Nat
  | .done => 0
  | .rd _ p => p.len + 1
  | .eff _ p => p.len + 1
  | .many ks p => ks.length + p.len
def putM (v : Nat → Value) (l : Nat → Bool) : List (Nat × Option Tmp) → Act → Act
  | [], a => a
  | k :: ks, a => putM v l ks (if l k.1 = true then a.put k.2 (v k.1) else a)
def listM (l : Nat → Bool) : List (Nat × Option Tmp) → Array Bool → Array Bool
  | [], g => g
  | k :: ks, g => listM l ks (if l k.1 = true then g.setIfInBounds k.1 true else g)
theorem listM_get (l : Nat → Bool) (b : Bool) : ∀ (ks : List (Nat × Option Tmp)) (g : Array Bool) (i : Nat), i < g.size → (listM l ks g).getD i b = ((ks.any fun k => k.1 == i && l k.1) || g.getD i b)
  | [], g, i, _ => by simp [listM]
  | k :: ks, g, i, hi => by
    rw [listM]
    by_cases h : l k.1 = true
    · rw [if_pos h, listM_get l b ks _ i (by simpa using hi)]
      by_cases e : k.1 = i
      · subst e; simp [h, hi]
      · have : (g.setIfInBounds k.1 true).getD i b = g.getD i b := by simp [Array.getD_eq_getD_getElem?, Array.getElem?_setIfInBounds_ne e]
        have e2 : (k.1 == i) = false := by simpa using e
        rw [this]
        simp [e2]
    · rw [if_neg h, listM_get l b ks _ i hi]
      simp [h]
theorem listM_size (l : Nat → Bool) : ∀ (ks : List (Nat × Option Tmp)) (g : Array Bool), (listM l ks g).size = g.size
  | [], g => rfl
  | k :: ks, g => by rw [listM, listM_size l ks]; split <;> simp
theorem Act.put_comm (a : Act) {d e : Option Tmp} (x y : Value) (h : d = none ∨ d ≠ e) : (a.put d x).put e y = (a.put e y).put d x := by
  unfold Act.put
  cases d <;> cases e <;> simp at h ⊢
  rw [Array.setIfInBounds_comm _ _ h]
theorem putM_comm (v : Nat → Value) (l : Nat → Bool) (d : Option Tmp) (x : Value) : ∀ (ks : List (Nat × Option Tmp)) (a : Act), (∀ k, k ∈ ks → d = none ∨ d ≠ k.2) → (putM v l ks a).put d x = putM v l ks (a.put d x)
  | [], a, _ => rfl
  | k :: ks, a, h => by
    rw [putM, putM, putM_comm v l d x ks _ (fun k hk => h k (List.mem_cons_of_mem _ hk))]
    congr 1
    split
    · exact (Act.put_comm a x (v k.1) (h k (List.mem_cons_self ..))).symm
    · rfl
theorem putM_congr {v v' : Nat → Value} {l l' : Nat → Bool} : ∀ (ks : List (Nat × Option Tmp)) (a : Act), (∀ k, k ∈ ks → v k.1 = v' k.1 ∧ l k.1 = l' k.1) → putM v l ks a = putM v' l' ks a
  | [], a, _ => rfl
  | k :: ks, a, h => by
    rw [putM, putM, (h k (List.mem_cons_self ..)).1, (h k (List.mem_cons_self ..)).2]
    exact putM_congr ks _ (fun k hk => h k (List.mem_cons_of_mem _ hk))
theorem listM_congr {l l' : Nat → Bool} : ∀ (ks : List (Nat × Option Tmp)) (g : Array Bool), (∀ k, k ∈ ks → l k.1 = l' k.1) → listM l ks g = listM l' ks g
  | [], a, _ => rfl
  | k :: ks, a, h => by
    rw [listM, listM, h k (List.mem_cons_self ..)]
    exact listM_congr ks _ (fun k hk => h k (List.mem_cons_of_mem _ hk))
theorem listM_comm (l : Nat → Bool) (i : Nat) : ∀ (ks : List (Nat × Option Tmp)) (g : Array Bool), (listM l ks g).setIfInBounds i true = listM l ks (g.setIfInBounds i true)
  | [], g => rfl
  | k :: ks, g => by
    rw [listM, listM, listM_comm l i ks]
    congr 1
    split
    · by_cases e : k.1 = i
      · subst e; rfl
      · exact Array.setIfInBounds_comm _ _ e
    · rfl
/-- No key twice, no slot twice. -/
def apartM : List (Nat × Option Tmp) → Bool
  | [] => true
  | k :: ks => (ks.all fun c => decide (c.1 ≠ k.1) && (k.2.isNone || decide (k.2 ≠ c.2))) && apartM ks
theorem putM_upd (v : Nat → Value) (l : Nat → Bool) (x : Value) : ∀ (ks : List (Nat × Option Tmp)) (a : Act) (k : Nat × Option Tmp), apartM ks = true → k ∈ ks → l k.1 = false → (putM v l ks a).put k.2 x = putM (upd v k.1 x) (upd l k.1 true) ks a
  | [], a, k, _, h, _ => by cases h
  | c :: cs, a, k, hap, hk, hl => by
    simp only [apartM, Bool.and_eq_true, List.all_eq_true, decide_eq_true_eq] at hap
    obtain ⟨h1, h2⟩ := hap
    rcases List.mem_cons.1 hk with e | hk
    · subst e
      rw [putM, putM, hl, if_neg (by simp), putM_comm v l k.2 x cs a (fun c hc => by
        have := (h1 c hc).2
        simp only [Bool.or_eq_true, decide_eq_true_eq] at this
        rcases this with h | h
        · exact .inl (by simpa using h)
        · exact .inr h)]
      have e1 : upd l k.1 true k.1 = true := by simp [upd]
      have e2 : upd v k.1 x k.1 = x := by simp [upd]
      rw [e1, e2, if_pos rfl]
      exact putM_congr cs _ (fun c hc => by have := (h1 c hc).1; unfold upd; rw [if_neg this, if_neg this]; exact ⟨rfl, rfl⟩)
    · have hne : k.1 ≠ c.1 := (h1 k hk).1
      rw [putM, putM, putM_upd v l x cs _ k h2 hk hl]
      have e1 : upd l k.1 true c.1 = l c.1 := by unfold upd; exact if_neg (Ne.symm hne)
      have e2 : upd v k.1 x c.1 = v c.1 := by unfold upd; exact if_neg (Ne.symm hne)
      rw [e1, e2]
theorem listM_upd (l : Nat → Bool) : ∀ (ks : List (Nat × Option Tmp)) (g : Array Bool) (k : Nat × Option Tmp), apartM ks = true → k ∈ ks → l k.1 = false → (listM l ks g).setIfInBounds k.1 true = listM (upd l k.1 true) ks g
  | [], a, k, _, h, _ => by cases h
  | c :: cs, a, k, hap, hk, hl => by
    simp only [apartM, Bool.and_eq_true, List.all_eq_true, decide_eq_true_eq] at hap
    obtain ⟨h1, h2⟩ := hap
    rcases List.mem_cons.1 hk with e | hk
    · subst e
      rw [listM, listM, hl, if_neg (by simp), listM_comm]
      have e1 : upd l k.1 true k.1 = true := by simp [upd]
      rw [e1, if_pos rfl]
      exact listM_congr cs _ (fun c hc => by have := (h1 c hc).1; unfold upd; rw [if_neg this])
    · have hne : k.1 ≠ c.1 := (h1 k hk).1
      rw [listM, listM, listM_upd l cs _ k h2 hk hl]
      have e1 : upd l k.1 true c.1 = l c.1 := by unfold upd; exact if_neg (Ne.symm hne)
      rw [e1]
def subsM : List (Nat × Option Tmp) → List (List Nat)
  | [] => [[]]
  | k :: ks => (subsM ks).flatMap fun s => [s, k.1 :: s]
theorem subsM_mem (l : Nat → Bool) : ∀ ks : List (Nat × Option Tmp), ((ks.map (·.1)).filter l) ∈ subsM ks
  | [] => by simp [subsM]
  | k :: ks => by
    rw [subsM, List.mem_flatMap]
    refine ⟨_, subsM_mem l ks, ?_⟩
    by_cases h : l k.1 = true
    · simp [h]
    · simp [h]

section
variable {P : Program} {ops : Array Oper} {md : Region.Mode} {Q : Exit → Act → World → Prop} {S : World → Prop} {keep : List Nat}
def needsM (md : Region.Mode) (ops : Array Oper) (k e : Nat) : Bool := (ops[k]?).any fun o => o.after.any fun x => Region.binds md x && x.on == e
def wpPlanM (P : Program) (md : Region.Mode) (ops : Array Oper) (Q : Exit → Act → World → Prop) (S : World → Prop) (keep : List Nat) : PlanM → Act → World → Prop
  | .done, a, w => Q .normal a w
  | .rd k p, a, w => ∃ o v, ops[k]? = some o ∧ YieldsIf P ops S o v a ∧ wpPlanM P md ops Q S keep p (a.put o.dst v) w
  | .eff k p, a, w => wpOp P ops Q k (fun a' w' => (keep.contains k = true → S w') ∧ wpPlanM P md ops Q S keep p a' w') a w
  | .many ks p, a, w => ∃ J : (Nat → Bool) → (Nat → Value) → World → Prop, J (fun _ => false) (fun _ => undef) w ∧
      (∀ k, k ∈ ks → ∀ (l : Nat → Bool) (v : Nat → Value) (w1 : World), S w1 → Below w.heap.size w w1 → l k.1 = false → (∀ e, e ∈ ks → needsM md ops k.1 e.1 = true → l e.1 = true) → J l v w1 →
        wpOp P ops Q k.1 (fun a2 w2 => ∃ x, a2 = (putM v l ks a).put k.2 x ∧ S w2 ∧ Below w.heap.size w w2 ∧ J (upd l k.1 true) (upd v k.1 x) w2) (putM v l ks a) w1) ∧
      ∀ (l : Nat → Bool) (v : Nat → Value) (w1 : World), S w1 → Below w.heap.size w w1 → (∀ d, d ∈ ks → l d.1 = true) → J l v w1 → wpPlanM P md ops Q S keep p (putM v (fun _ => true) ks a) w1
/-- By the edges: each that is not of the many waits for all of them; of the many each waits only for what is done and for lesser ones. -/
def edgeB (md : Region.Mode) (ops : Array Oper) (ks : List (Nat × Option Tmp)) (listed : Array Bool) : Bool :=
  (ks.all fun k => decide (k.1 < ops.size) && (ops[k.1]?).any fun o => o.after.all fun e => !Region.binds md e || listed.getD e.on false || (decide (e.on < k.1) && ks.any fun c => c.1 == e.on)) &&
  (List.range ops.size).all fun j => listed.getD j true || (ks.any fun c => c.1 == j) || ks.all fun c => needsM md ops j c.1
def manyB (md : Region.Mode) (ops : Array Oper) (ks : List (Nat × Option Tmp)) (listed : Array Bool) : Bool :=
  (apartM ks && (ks.all fun k => decide (k.1 < listed.size) && !listed.getD k.1 true)) && (edgeB md ops ks listed || (subsM ks).all fun s =>
    (ks.all fun k => s.contains k.1) || (!(Region.ready md ops (listM (fun k => s.contains k) ks listed)).isEmpty && (Region.ready md ops (listM (fun k => s.contains k) ks listed)).all fun i => ks.any fun k => k.1 == i))
def planMB (md : Region.Mode) (ops : Array Oper) (keep : List Nat) : PlanM → Bool → Array Bool → Bool
  | .done, _, listed => (Region.ready md ops listed).isEmpty
  | .rd k p, valid, listed => valid && (Region.ready md ops listed).contains k && Region.free md ops listed k && ((List.range ops.size).all fun j => listed.getD j true || j == k || keep.contains j || Region.waitsFor md ops j k) && planMB md ops keep p valid (listed.setIfInBounds k true)
  | .eff k p, valid, listed => decide (Region.ready md ops listed = [k]) && planMB md ops keep p (valid && keep.contains k) (listed.setIfInBounds k true)
  | .many ks p, valid, listed => valid && manyB md ops ks listed && planMB md ops keep p valid (listM (fun _ => true) ks listed)

theorem edge_least {ks : List (Nat × Option Tmp)} {l : Nat → Bool} : ∀ (m : Nat), (∃ k, k ∈ ks ∧ l k.1 = false ∧ k.1 < m) → ∃ k, k ∈ ks ∧ l k.1 = false ∧ ∀ c, c ∈ ks → c.1 < k.1 → l c.1 = true
  | 0, ⟨k, _, _, h⟩ => absurd h (Nat.not_lt_zero _)
  | m + 1, ⟨k, hk, hl, hm⟩ => by
    by_cases h : ∃ c, c ∈ ks ∧ l c.1 = false ∧ c.1 < m
    · exact edge_least m h
    · refine ⟨k, hk, hl, fun c hc hlt => ?_⟩
      rcases hlc : l c.1 with _ | _
      · exact absurd ⟨c, hc, hlc, by omega⟩ h
      · rfl
theorem many_ready {ks : List (Nat × Option Tmp)} {listed : Array Bool} (hB : manyB md ops ks listed = true) {l : Nat → Bool} (hnot : ∃ k, k ∈ ks ∧ l k.1 = false) : Region.ready md ops (listM l ks listed) ≠ [] ∧ ∀ i, i ∈ Region.ready md ops (listM l ks listed) → ∃ k, k ∈ ks ∧ k.1 = i := by
  simp only [manyB, Bool.and_eq_true] at hB
  obtain ⟨⟨hap, hun⟩, hB⟩ := hB
  have hin : ∀ e, e ∈ ks → e.1 < listed.size ∧ listed.getD e.1 true = false := fun e he => by
    have := List.all_eq_true.1 hun e he
    simpa using this
  rw [Bool.or_eq_true] at hB
  rcases hB with hE | hsub
  · simp only [edgeB, Bool.and_eq_true] at hE
    obtain ⟨h1, h2⟩ := hE
    constructor
    · obtain ⟨k0, hk0, hl0⟩ := hnot
      obtain ⟨k, hk, hlk, hmin⟩ := edge_least (ks := ks) (l := l) (k0.1 + 1) ⟨k0, hk0, hl0, by omega⟩
      have hk1 := List.all_eq_true.1 h1 k hk
      rw [Bool.and_eq_true, decide_eq_true_eq] at hk1
      obtain ⟨hlt, hedge⟩ := hk1
      have ho : ops[k.1]? = some ops[k.1] := Array.getElem?_eq_getElem hlt
      rw [ho, Option.any_some, Array.all_eq_true_iff_forall_mem] at hedge
      have hr : k.1 ∈ Region.ready md ops (listM l ks listed) := by
        refine mem_ready.2 ⟨?_, _, ho, fun e he hb => ?_⟩
        · rw [listM_get l true ks listed k.1 (hin k hk).1, (hin k hk).2, Bool.or_false]
          rw [List.any_eq_false]
          intro c hc hcc
          rw [Bool.and_eq_true] at hcc
          have e1 : c.1 = k.1 := by simpa using hcc.1
          have := hcc.2
          rw [e1, hlk] at this; cases this
        · have := hedge e he
          simp only [Bool.or_eq_true, Bool.and_eq_true, Bool.not_eq_true', decide_eq_true_eq] at this
          rcases this with (h | h) | ⟨h, h3⟩
          · rw [hb] at h; cases h
          · have hsz : e.on < listed.size := by
              by_cases hs : e.on < listed.size
              · exact hs
              · simp [Array.getD_eq_getD_getElem?, hs] at h
            rw [listM_get l false ks listed e.on hsz, h, Bool.or_true]
          · obtain ⟨c, hc, hcc⟩ := List.any_eq_true.1 h3
            have e1 : c.1 = e.on := by simpa using hcc
            have hsz : e.on < listed.size := by rw [← e1]; exact (hin c hc).1
            rw [listM_get l false ks listed e.on hsz, Bool.or_eq_true]
            refine .inl (List.any_eq_true.2 ⟨c, hc, ?_⟩)
            rw [hmin c hc (by omega), e1]; simp
      intro h
      rw [h] at hr; cases hr
    · intro i hi
      obtain ⟨hi0, o, ho, hedges⟩ := mem_ready.1 hi
      have hlt : i < ops.size := (Array.getElem?_eq_some_iff.1 ho).1
      have h3 := List.all_eq_true.1 h2 i (List.mem_range.2 hlt)
      rw [Bool.or_eq_true, Bool.or_eq_true] at h3
      rcases h3 with (h3 | h3) | h3
      · have : i < listed.size ∨ ¬ i < listed.size := Nat.lt_or_ge .. |>.imp id (fun h => by omega)
        rcases this with hs | hs
        · rw [listM_get l true ks listed i hs, h3, Bool.or_true] at hi0; cases hi0
        · have hsz := listM_size l ks listed
          rw [Array.getD_eq_getD_getElem?, Array.getElem?_eq_none (by omega)] at hi0; cases hi0
      · obtain ⟨c, hc, hcc⟩ := List.any_eq_true.1 h3
        exact ⟨c, hc, by simpa using hcc⟩
      · obtain ⟨k, hk, hlk⟩ := hnot
        have hn := List.all_eq_true.1 h3 k hk
        unfold needsM at hn
        rw [ho] at hn
        simp only [Option.any_some, Array.any_eq_true] at hn
        obtain ⟨x, hx, hbx⟩ := hn
        rw [Bool.and_eq_true] at hbx
        have h4 := hedges _ (Array.getElem_mem hx) hbx.1
        have e1 : o.after[x].on = k.1 := by simpa using hbx.2
        rw [e1, listM_get l false ks listed k.1 (hin k hk).1, Bool.or_eq_true] at h4
        rcases h4 with h4 | h4
        · obtain ⟨c, hc, hc2⟩ := List.any_eq_true.1 h4
          rw [Bool.and_eq_true] at hc2
          have e2 : c.1 = k.1 := by simpa using hc2.1
          have := hc2.2
          rw [e2, hlk] at this; cases this
        · have h5 := (hin k hk).2
          have h6 := (hin k hk).1
          simp [h6] at h4 h5
          rw [h4] at h5; cases h5
  · have hs := List.all_eq_true.1 hsub _ (subsM_mem l ks)
    have hcont : ∀ k, k ∈ ks → ((ks.map (·.1)).filter l).contains k.1 = l k.1 := fun k hk => by
      rcases h : l k.1 with _ | _
      · rw [Bool.eq_false_iff]
        intro hc
        have := List.contains_iff_mem.1 hc
        rw [List.mem_filter] at this
        rw [h] at this; exact absurd this.2 (by simp)
      · exact List.contains_iff_mem.2 (List.mem_filter.2 ⟨List.mem_map.2 ⟨k, hk, rfl⟩, h⟩)
    have hnot2 : ¬ (ks.all fun k => ((ks.map (·.1)).filter l).contains k.1) = true := fun hc => by
      obtain ⟨k, hk, hlk⟩ := hnot
      have := List.all_eq_true.1 hc k hk
      rw [hcont k hk, hlk] at this; cases this
    rw [Bool.or_eq_true] at hs
    have hs2 := hs.resolve_left hnot2
    rw [listM_congr ks listed (l' := l) (fun k hk => hcont k hk), Bool.and_eq_true] at hs2
    obtain ⟨hne, hin2⟩ := hs2
    refine ⟨fun h => (by rw [h] at hne; cases hne), fun i hi => ?_⟩
    obtain ⟨c, hc, hcc⟩ := List.any_eq_true.1 (List.all_eq_true.1 hin2 i hi)
    exact ⟨c, hc, by simpa using hcc⟩
theorem many_run {n : Nat} {ks : List (Nat × Option Tmp)} {listed : Array Bool} {a : Act} {w : World} {J : (Nat → Bool) → (Nat → Value) → World → Prop} (hB : manyB md ops ks listed = true)
    (hop : ∀ k, k ∈ ks → ∀ (l : Nat → Bool) (v : Nat → Value) (w1 : World), S w1 → Below w.heap.size w w1 → l k.1 = false → (∀ e, e ∈ ks → needsM md ops k.1 e.1 = true → l e.1 = true) → J l v w1 →
        wpOp P ops Q k.1 (fun a2 w2 => ∃ x, a2 = (putM v l ks a).put k.2 x ∧ S w2 ∧ Below w.heap.size w w2 ∧ J (upd l k.1 true) (upd v k.1 x) w2) (putM v l ks a) w1)
    (hend : ∀ (l : Nat → Bool) (v : Nat → Value) (w1 : World), S w1 → Below w.heap.size w w1 → (∀ d, d ∈ ks → l d.1 = true) → J l v w1 → wpAnyK P md ops Q S keep n (listM (fun _ => true) ks listed) (putM v (fun _ => true) ks a) w1) :
    ∀ (m : Nat) (l : Nat → Bool) (v : Nat → Value) (w1 : World), (ks.filter fun k => !l k.1).length = m → S w1 → Below w.heap.size w w1 → J l v w1 →
      wpAnyK P md ops Q S keep (m + n) (listM l ks listed) (putM v l ks a) w1
  | 0, l, v, w1, hm, hS, hb, hJ => by
    have hall : ∀ k, k ∈ ks → l k.1 = true := fun k hk => by
      have := List.eq_nil_of_length_eq_zero hm
      rcases h : l k.1 with _ | _
      · have hmem : k ∈ ks.filter fun k => !l k.1 := List.mem_filter.2 ⟨hk, by simp [h]⟩
        rw [this] at hmem; cases hmem
      · rfl
    rw [Nat.zero_add, listM_congr ks listed (l' := fun _ => true) (fun k hk => hall k hk), putM_congr ks a (v' := v) (l' := fun _ => true) (fun k hk => ⟨rfl, hall k hk⟩)]
    exact hend l v w1 hS hb hall hJ
  | m + 1, l, v, w1, hm, hS, hb, hJ => by
    have hsome : ∃ k, k ∈ ks ∧ l k.1 = false := by
      have : (ks.filter fun k => !l k.1) ≠ [] := fun h => by rw [h] at hm; cases hm
      obtain ⟨k, hk⟩ := List.exists_mem_of_ne_nil _ this
      obtain ⟨h1, h2⟩ := List.mem_filter.1 hk
      exact ⟨k, h1, by simpa using h2⟩
    obtain ⟨hne, hin⟩ := many_ready hB hsome
    have hB' := hB
    simp only [manyB, Bool.and_eq_true] at hB
    obtain ⟨⟨hap, hun⟩, -⟩ := hB
    rw [Nat.add_right_comm]
    refine ⟨fun h => absurd h hne, fun i hi => ?_⟩
    · obtain ⟨k, hk, hki⟩ := hin i hi
      subst hki
      obtain ⟨hun1, oj, hoj, hedges⟩ := mem_ready.1 hi
      have hk1 := List.all_eq_true.1 hun k hk
      simp only [Bool.and_eq_true, decide_eq_true_eq, Bool.not_eq_true'] at hk1
      rw [listM_get l true ks listed k.1 hk1.1, Bool.or_eq_false_iff] at hun1
      have hlk : l k.1 = false := by
        rcases h : l k.1 with _ | _
        · rfl
        · have := List.any_eq_false.1 hun1.1 k hk
          simp [h] at this
      have hneed : ∀ e, e ∈ ks → needsM md ops k.1 e.1 = true → l e.1 = true := fun e he hn => by
        unfold needsM at hn
        rw [hoj] at hn
        simp only [Option.any_some, Array.any_eq_true] at hn
        obtain ⟨x, hx, hbx⟩ := hn
        rw [Bool.and_eq_true] at hbx
        have hx2 : oj.after[x] ∈ oj.after := Array.getElem_mem hx
        have h3 := hedges _ hx2 hbx.1
        have e1 : oj.after[x].on = e.1 := by simpa using hbx.2
        have he1 := List.all_eq_true.1 hun e he
        simp only [Bool.and_eq_true, decide_eq_true_eq, Bool.not_eq_true'] at he1
        rw [e1, listM_get l false ks listed e.1 he1.1, Bool.or_eq_true] at h3
        rcases h3 with h3 | h3
        · obtain ⟨c, hc, hc2⟩ := List.any_eq_true.1 h3
          rw [Bool.and_eq_true] at hc2
          have : c.1 = e.1 := by simpa using hc2.1
          rw [← this]; exact hc2.2
        · have hlt : e.1 < listed.size := he1.1
          have h5 := he1.2
          simp [hlt] at h3 h5
          rw [h3] at h5; cases h5
      refine wpOp_mono (fun a2 w2 h2 => ?_) (hop k hk l v w1 hS hb hlk hneed hJ)
      obtain ⟨x, rfl, hS2, hb2, hJ2⟩ := h2
      refine ⟨fun _ => hS2, ?_⟩
      rw [putM_upd v l x ks a k hap hk hlk, listM_upd l ks listed k hap hk hlk]
      refine many_run hB' hop hend m _ _ w2 ?_ hS2 hb2 hJ2
      · have hlen : ∀ (cs : List (Nat × Option Tmp)), apartM cs = true → k ∈ cs → (cs.filter fun c => !l c.1).length = (cs.filter fun c => !(upd l k.1 true) c.1).length + 1 := fun cs => by
          induction cs with
          | nil => intro _ h; cases h
          | cons c cs ih =>
            intro hap hk
            simp only [apartM, Bool.and_eq_true, List.all_eq_true, decide_eq_true_eq] at hap
            rcases List.mem_cons.1 hk with e | hk
            · subst e
              have e1 : upd l k.1 true k.1 = true := by simp [upd]
              have e2 : (cs.filter fun c => !(upd l k.1 true) c.1) = cs.filter fun c => !l c.1 := List.filter_congr fun c hc => by
                have := (hap.1 c hc).1
                unfold upd; rw [if_neg this]
              rw [List.filter_cons, List.filter_cons, e1, hlk, e2]
              simp
            · have hne : k.1 ≠ c.1 := (hap.1 k hk).1
              have e1 : upd l k.1 true c.1 = l c.1 := by unfold upd; exact if_neg (Ne.symm hne)
              rw [List.filter_cons, List.filter_cons, e1]
              split
              · rw [List.length_cons, List.length_cons, ih hap.2 hk]
              · exact ih hap.2 hk
        have := hlen ks hap hk
        omega
theorem wpAnyK_planM (hsel : Region.noSelect ops = true) (hQ : ∀ c a d v w, Q (.panic c) (Act.put a d v) w → Q (.panic c) a w) :
    ∀ (p : PlanM) (valid : Bool) (listed : Array Bool) (a : Act) (w : World), planMB md ops keep p valid listed = true → (valid = true → S w) → wpPlanM P md ops Q S keep p a w → wpAnyK P md ops Q S keep p.len listed a w
  | .done, _, listed, a, w, hB, _, h => ⟨by simpa [planMB] using hB, h⟩
  | .rd k p, valid, listed, a, w, hB, hS, h => by
    obtain ⟨o, v, h0, hy, h⟩ := h
    simp only [planMB, Bool.and_eq_true] at hB
    obtain ⟨⟨⟨⟨hv, hr⟩, hf⟩, hk⟩, hB⟩ := hB
    refine wpAnyK_first h0 (Region.noSelect_spec hsel) (fun c a w hq => hQ c a _ _ w hq) _ listed a w (fun j oj hj hji hun hno => ⟨Region.free_spec h0 hf j oj hj hji hun hno, ?_⟩) (by simpa using hr) hy (hS hv) (wpAnyK_planM hsel hQ p valid _ _ w hB hS h)
    have hjs : j < ops.size := (Array.getElem?_eq_some_iff.1 hj).1
    have h3 := List.all_eq_true.1 hk j (List.mem_range.2 hjs)
    simp only [Bool.or_eq_true] at h3
    rcases h3 with ((h3 | h3) | h3) | h3
    · rw [hun] at h3; cases h3
    · simp at h3; exact absurd h3 hji
    · exact h3
    · obtain ⟨oj', hoj', e, he, hb, heq⟩ := Region.waitsFor_spec h3
      rw [hj] at hoj'
      injection hoj' with hoj'
      subst hoj'
      exact absurd heq (hno e he hb)
  | .eff k p, valid, listed, a, w, hB, hS, h => by
    simp only [planMB, Bool.and_eq_true, decide_eq_true_eq] at hB
    refine ⟨fun h1 => (by rw [hB.1] at h1; cases h1), fun i hi => ?_⟩
    rw [hB.1] at hi
    have hik : i = k := by simpa using hi
    subst hik
    exact wpOp_mono (fun a' w' h' => ⟨h'.1, wpAnyK_planM hsel hQ p (valid && keep.contains i) _ a' w' hB.2 (fun hv => h'.1 (by simp at hv; simpa using hv.2)) h'.2⟩) h
  | .many ks p, valid, listed, a, w, hB, hS, h => by
    simp only [planMB, Bool.and_eq_true] at hB
    obtain ⟨⟨hv, hmB⟩, hB⟩ := hB
    obtain ⟨J, hz, hop, hend⟩ := h
    have := many_run (n := p.len) (keep := keep) hmB hop (fun l v w1 hS1 hb1 hl hJ => wpAnyK_planM hsel hQ p valid _ _ w1 hB (fun _ => hS1) (hend l v w1 hS1 hb1 hl hJ)) ks.length (fun _ => false) (fun _ => undef) w (by simp) (hS hv) (Below.refl _ _) hz
    rw [show listM (fun _ => false) ks listed = listed from by
        have : ∀ (cs : List (Nat × Option Tmp)) (g : Array Bool), listM (fun _ => false) cs g = g := fun cs => by
          induction cs with
          | nil => intro g; rfl
          | cons c cs ih => intro g; rw [listM, if_neg (by simp)]; exact ih g
        exact this _ _,
      show putM (fun _ => undef) (fun _ => false) ks a = a from by
        have : ∀ (cs : List (Nat × Option Tmp)) (g : Act), putM (fun _ => undef) (fun _ => false) cs g = g := fun cs => by
          induction cs with
          | nil => intro g; rfl
          | cons c cs ih => intro g; rw [putM, if_neg (by simp)]; exact ih g
        exact this _ _] at this
    exact this

theorem pm_done {a : Act} {w : World} (h : Q .normal a w) : wpPlanM P md ops Q S keep .done a w := h
theorem pm_pure {k : Nat} {p : PlanM} {o : Oper} {a : Act} {w : World} (ho : ops[k]? = some o)
    (h : ∀ K : Act → Prop, (∀ a', wpPlanM P md ops Q S keep p a' w → K a') → if Region.wanted o (yielded ops a.tmps) then (∃ v, (∀ W, (execOp a.eval o).run P W = .ok (.value v) W) ∧ K (a.put o.dst v)) else K (a.put o.dst undef)) : wpPlanM P md ops Q S keep (.rd k p) a w := by
  have h' := h (fun a' => wpPlanM P md ops Q S keep p a' w) (fun _ h => h)
  by_cases hw : Region.wanted o (yielded ops a.tmps) = true
  · rw [if_pos hw] at h'
    obtain ⟨v, hv, h'⟩ := h'
    exact ⟨o, v, ho, .inl ⟨hw, fun W _ => hv W⟩, h'⟩
  · rw [if_neg hw] at h'
    exact ⟨o, undef, ho, .inr ⟨by simpa using hw, rfl⟩, h'⟩
theorem pm_rd {k : Nat} {p : PlanM} {o : Oper} {a : Act} {w : World} (v : Value) (ho : ops[k]? = some o) (hg : Region.wanted o (yielded ops a.tmps) = true) (hv : ∀ W, S W → (execOp a.eval o).run P W = .ok (.value v) W) (h : ∀ K : Act → Prop, (∀ a', wpPlanM P md ops Q S keep p a' w → K a') → K (a.put o.dst v)) : wpPlanM P md ops Q S keep (.rd k p) a w :=
  ⟨o, v, ho, .inl ⟨hg, hv⟩, h _ (fun _ h => h)⟩
theorem pm_eff {k : Nat} {p : PlanM} {o : Oper} {a : Act} {w : World} (ho : ops[k]? = some o) (hg : Region.wanted o (yielded ops a.tmps) = true)
    (h : ∀ K : Act → World → Prop, (∀ a' w', (keep.contains k = true → S w') → wpPlanM P md ops Q S keep p a' w' → K a' w') → o.wp P a w K Q) : wpPlanM P md ops Q S keep (.eff k p) a w := by
  show wpOp P ops Q k _ a w
  unfold wpOp
  simp only [ho, if_pos hg]
  exact .inl (h _ (fun _ _ h1 h2 => ⟨h1, h2⟩))
/-- An effect of the many. -/
theorem pm_one {k : Nat} {o : Oper} {a : Act} {w : World} {K : Act → World → Prop} (ho : ops[k]? = some o) (hg : Region.wanted o (yielded ops a.tmps) = true) (h : ∀ K' : Act → World → Prop, (∀ a' w', K a' w' → K' a' w') → o.wp P a w K' Q) : wpOp P ops Q k K a w := by
  unfold wpOp
  simp only [ho, if_pos hg]
  exact .inl (h _ (fun _ _ h => h))
/-- Many, in any order, in worlds in which what was ahead of them is kept. -/
theorem pm_manyW {ks : List (Nat × Option Tmp)} {p : PlanM} {a : Act} {w : World} (J : (Nat → Bool) → (Nat → Value) → World → Prop) (hz : J (fun _ => false) (fun _ => undef) w)
    (hop : ∀ k, k ∈ ks → ∀ (l : Nat → Bool) (v : Nat → Value) (w1 : World), S w1 → Below w.heap.size w w1 → l k.1 = false → (∀ e, e ∈ ks → needsM md ops k.1 e.1 = true → l e.1 = true) → J l v w1 →
        wpOp P ops Q k.1 (fun a2 w2 => ∃ x, a2 = (putM v l ks a).put k.2 x ∧ S w2 ∧ Below w.heap.size w w2 ∧ J (upd l k.1 true) (upd v k.1 x) w2) (putM v l ks a) w1)
    (hend : ∀ (l : Nat → Bool) (v : Nat → Value) (w1 : World), S w1 → Below w.heap.size w w1 → (∀ d, d ∈ ks → l d.1 = true) → J l v w1 → wpPlanM P md ops Q S keep p (putM v (fun _ => true) ks a) w1) : wpPlanM P md ops Q S keep (.many ks p) a w := ⟨J, hz, hop, hend⟩
/-- Many, in any order; each keeps all that is. -/
theorem pm_manyJ {ks : List (Nat × Option Tmp)} {p : PlanM} {a : Act} {w : World} (J : (Nat → Bool) → (Nat → Value) → World → Prop) (hz : J (fun _ => false) (fun _ => undef) w)
    (hop : ∀ k, k ∈ ks → ∀ (l : Nat → Bool) (v : Nat → Value) (w1 : World), S w1 → Below w.heap.size w w1 → l k.1 = false → (∀ e, e ∈ ks → needsM md ops k.1 e.1 = true → l e.1 = true) → J l v w1 →
        wpOp P ops Q k.1 (fun a2 w2 => ∃ x, a2 = (putM v l ks a).put k.2 x ∧ S w2 ∧ Below w1.heap.size w1 w2 ∧ J (upd l k.1 true) (upd v k.1 x) w2) (putM v l ks a) w1)
    (hend : ∀ (l : Nat → Bool) (v : Nat → Value) (w1 : World), S w1 → Below w.heap.size w w1 → (∀ d, d ∈ ks → l d.1 = true) → J l v w1 → wpPlanM P md ops Q S keep p (putM v (fun _ => true) ks a) w1) : wpPlanM P md ops Q S keep (.many ks p) a w :=
  ⟨J, hz, fun k hk l v w1 hS hb hl hn hJ => wpOp_mono (fun a2 w2 h => by obtain ⟨x, h1, h2, h3, h4⟩ := h; exact ⟨x, h1, h2, hb.trans (h3.mono hb.size), h4⟩) (hop k hk l v w1 hS hb hl hn hJ), hend⟩
theorem pm_many {ks : List (Nat × Option Tmp)} {p : PlanM} {a : Act} {w : World} (V : Nat → Value → World → Prop) (hmono : ∀ k v w1 w2, V k v w1 → Below w1.heap.size w1 w2 → V k v w2)
    (hop : ∀ k, k ∈ ks → ∀ (l : Nat → Bool) (v : Nat → Value) (w1 : World), S w1 → Below w.heap.size w w1 → l k.1 = false → (∀ e, e ∈ ks → needsM md ops k.1 e.1 = true → l e.1 = true) → (∀ d, d ∈ ks → l d.1 = true → V d.1 (v d.1) w1) →
        wpOp P ops Q k.1 (fun a2 w2 => ∃ x, a2 = (putM v l ks a).put k.2 x ∧ S w2 ∧ Below w1.heap.size w1 w2 ∧ V k.1 x w2) (putM v l ks a) w1)
    (hend : ∀ (v : Nat → Value) (w1 : World), S w1 → Below w.heap.size w w1 → (∀ d, d ∈ ks → V d.1 (v d.1) w1) → wpPlanM P md ops Q S keep p (putM v (fun _ => true) ks a) w1) : wpPlanM P md ops Q S keep (.many ks p) a w :=
  pm_manyJ (fun l v W => ∀ d, d ∈ ks → l d.1 = true → V d.1 (v d.1) W) (fun d _ h => by cases h)
    (fun k hk l v w1 hS hb hl hn hJ => wpOp_mono (fun a2 w2 h => by
      obtain ⟨x, h1, h2, h3, h4⟩ := h
      refine ⟨x, h1, h2, h3, fun d hd hld => ?_⟩
      by_cases e : d.1 = k.1
      · rw [e]; unfold upd; simp only [if_true]; exact h4
      · have e1 : upd l k.1 true d.1 = l d.1 := by unfold upd; exact if_neg e
        have e2 : upd v k.1 x d.1 = v d.1 := by unfold upd; exact if_neg e
        rw [e1] at hld
        rw [e2]
        exact hmono _ _ _ _ (hJ d hd hld) h3) (hop k hk l v w1 hS hb hl hn hJ))
    (fun l v w1 hS hb hl hJ => hend v w1 hS hb (fun d hd => hJ d hd (hl d hd)))
theorem wp_calls_ret {o : Oper} {a : Act} {w : World} {K : Act → World → Prop} {f : FuncId} {args : Array Value} {v : Value} {R : World → Prop} (h : (execOp a.eval o).run P w = .ok (.enter f args) w)
    (hc : Calls P f args w fun e w' => e = .returned v ∧ R w') (hk : ∀ w', R w' → K (a.put o.dst v) w') : o.wp P a w K Q := by
  unfold Oper.wp
  rw [h]
  refine hc.mono ?_
  rintro e w' ⟨rfl, h⟩
  exact hk w' h
theorem put_tmp_ne (a : Act) (d : Option Tmp) (x : Value) (t : Tmp) (h : d ≠ some t) : (a.put d x).tmps.getD t undef = a.tmps.getD t undef := by
  unfold Act.put
  cases d with
  | none => rfl
  | some d =>
    have : d ≠ t := fun e => h (by rw [e])
    simp [Array.getD_eq_getD_getElem?, Array.getElem?_setIfInBounds_ne this]
theorem putM_eval_other {v : Nat → Value} {l : Nat → Bool} (t : Tmp) : ∀ (ks : List (Nat × Option Tmp)) (a : Act), (∀ k, k ∈ ks → k.2 ≠ some t) → (putM v l ks a).tmps.getD t undef = a.tmps.getD t undef
  | [], a, _ => rfl
  | k :: ks, a, h => by
    rw [putM, putM_eval_other t ks _ (fun k hk => h k (List.mem_cons_of_mem _ hk))]
    split
    · exact put_tmp_ne _ _ _ _ (h k (List.mem_cons_self ..))
    · rfl
theorem putM_size {v : Nat → Value} {l : Nat → Bool} : ∀ (ks : List (Nat × Option Tmp)) (a : Act), (putM v l ks a).tmps.size = a.tmps.size
  | [], a => rfl
  | k :: ks, a => by
    rw [putM, putM_size ks]
    split
    · unfold Act.put; cases k.2 <;> simp
    · rfl
theorem putM_eval_at {v : Nat → Value} {l : Nat → Bool} (t : Tmp) : ∀ (ks : List (Nat × Option Tmp)) (a : Act) (k : Nat), apartM ks = true → (k, some t) ∈ ks → l k = true → t < a.tmps.size → (putM v l ks a).tmps.getD t undef = v k
  | [], a, k, _, h, _, _ => by cases h
  | c :: cs, a, k, hap, hk, hl, ht => by
    simp only [apartM, Bool.and_eq_true, List.all_eq_true, decide_eq_true_eq] at hap
    rcases List.mem_cons.1 hk with e | hk
    · subst e
      rw [putM, if_pos hl, putM_eval_other t cs _ (fun c hc => by
        have := (hap.1 c hc).2
        simp only [Option.isNone_some, Bool.false_or, decide_eq_true_eq] at this
        exact fun e => this e.symm)]
      show ((a.tmps.setIfInBounds t (v k)).getD t undef) = v k
      simp [ht]
    · rw [putM]
      refine putM_eval_at t cs _ k hap.2 hk hl ?_
      split
      · unfold Act.put; cases c.2 <;> simpa using ht
      · exact ht
/-- A read, its slot told. -/
theorem pm_rdv {k : Nat} {p : PlanM} {o : Oper} {a : Act} {w : World} (t : Tmp) (v : Value) (ho : ops[k]? = some o) (hd : o.dst = some t) (hg : Region.wanted o (yielded ops a.tmps) = true) (hv : ∀ W, S W → (execOp a.eval o).run P W = .ok (.value v) W) (h : wpPlanM P md ops Q S keep p (a.put (some t) v) w) : wpPlanM P md ops Q S keep (.rd k p) a w :=
  ⟨o, v, ho, .inl ⟨hg, hv⟩, by rw [hd]; exact h⟩
/-- A read in its turn, its slot told. -/
theorem pm_efv {k : Nat} {p : PlanM} {o : Oper} {a : Act} {w : World} (t : Tmp) (v : Value) (ho : ops[k]? = some o) (hd : o.dst = some t) (hg : Region.wanted o (yielded ops a.tmps) = true) (hv : (execOp a.eval o).run P w = .ok (.value v) w) (hS : keep.contains k = true → S w) (h : wpPlanM P md ops Q S keep p (a.put (some t) v) w) : wpPlanM P md ops Q S keep (.eff k p) a w :=
  pm_eff ho hg fun K hK => wp_value v hv (by rw [hd]; exact hK _ _ hS h)
/-- A store of a row. -/
theorem pm_store {k : Nat} {p : PlanM} {o : Oper} {a : Act} {w : World} (ho : ops[k]? = some o) (hd : o.dst = none) (hg : Region.wanted o (yielded ops a.tmps) = true) (ty : TypeId) (x y : Operand) (hop : o.op = .store ty x y) (b off : Nat) (cells : Array Value)
    (hx : a.eval x = .pointer (some ⟨b, off, none⟩)) (hy : a.eval y = .agg cells) (ht : w.there b off cells.size) (hi : (P.info? ty).map (·.size) = some cells.size) (h1 : cells.all (·.oneCell') = true)
    (hS : keep.contains k = true → S (w.setCells b off cells.toList)) (h : wpPlanM P md ops Q S keep p a (w.setCells b off cells.toList)) : wpPlanM P md ops Q S keep (.eff k p) a w :=
  pm_eff ho hg fun K hK => wp_store_mid ty x y hop b off cells hx hy ht hi h1 (by rw [hd]; exact hK _ _ hS h)
def plMB (md : Region.Mode) (ops : Array Oper) (keep : List Nat) (p : PlanM) : Bool := Region.noSelect ops && decide (p.len = ops.size) && planMB md ops keep p true (Array.replicate ops.size false)
/-- The region by a plan. -/
theorem planM {id : Nat} {ops : Array Oper} {a : Act} {w : World} (p : PlanM) (keep : List Nat) (S : World → Prop) (hm : P.follows .mixedOrders = true) (hB : plMB .any ops keep p = true) (hQ : ∀ c a d v w, Q (.panic c) (Act.put a d v) w → Q (.panic c) a w)
    (hS : S w.drew) (h : wpPlanM P .any ops Q S keep p a w.drew) : (Code.region id ops true).wp P Q a w := by
  simp only [plMB, Bool.and_eq_true, decide_eq_true_eq] at hB
  obtain ⟨⟨hsel, hn⟩, hB⟩ := hB
  refine wp_region_any hm (wpAny_of_k (S := S) (keep := keep) _ _ _ _ ?_)
  have := wpAnyK_planM (P := P) (md := .any) (ops := ops) (Q := Q) (S := S) (keep := keep) hsel hQ p true (Array.replicate ops.size false) a w.drew hB (fun _ => hS) h
  rw [hn] at this
  exact this
end
end Go.Proofs.Ytjlddhnjbjhmkaa
namespace Go.Proofs.Ytjlddhnjbjhmkaa
open Go.RowKit

/-- A span: from a number to a number. -/
structure Sp where
  l : Nat
  g : Nat
/-- A range of a register. -/
structure Rg where
  s : Bool
  l : Nat
  g : Nat
/-- What is known ahead of an instruction. -/
structure Kn where
  come : Bool
  r : Nat → Rg
def Rg.sp (r : Rg) : Sp := ⟨r.l, r.g⟩
def rg0 : Rg := ⟨false, 0, 0⟩
def kn0 : Kn := ⟨false, fun _ => rg0⟩
def Kn.put (k : Kn) (n : Nat) (s : Sp) : Kn := ⟨k.come, upd k.r n ⟨true, s.l, s.g⟩⟩
def allS : Sp := ⟨0, 4294967295⟩
def onesN (n : Nat) : Nat := 2 ^ bitLen n - 1
def withinS (s : Sp) : Sp := if 4294967295 < s.g then allS else s
def mkS (op : Nat) (d s : Sp) : Sp :=
  if op ≤ 2 then s else if op ≤ 4 then withinS ⟨d.l + s.l, d.g + s.g⟩ else if op = 5 then (if d.l < s.g then allS else ⟨d.l - s.g, d.g - s.l⟩)
  else if op ≤ 7 then withinS ⟨d.l * s.l, d.g * s.g⟩ else if op ≤ 9 then ⟨0, min d.g s.g⟩ else if op = 10 then ⟨max d.l s.l, onesN (max d.g s.g)⟩
  else if op = 11 then ⟨0, onesN (max d.g s.g)⟩ else if op = 12 then withinS ⟨d.l * 2 ^ s.l, d.g * 2 ^ s.l⟩ else if op = 13 then ⟨d.l / 2 ^ s.l, d.g / 2 ^ s.l⟩
  else if op = 14 then ⟨d.l / s.g, d.g / s.l⟩ else ⟨0, min d.g (s.g - 1)⟩
def Sp.ok (s : Sp) : Prop := s.l ≤ s.g ∧ s.g ≤ 4294967295
def Sp.has (s : Sp) (v : Nat) : Prop := s.l ≤ v ∧ v ≤ s.g
def Sp.le (s t : Sp) : Prop := t.l ≤ s.l ∧ s.g ≤ t.g
theorem ones_le {n k : Nat} (h : n < 2 ^ k) : onesN n ≤ 2 ^ k - 1 := by
  unfold onesN
  have : bitLen n ≤ k := by
    unfold bitLen
    split
    · exact Nat.zero_le _
    · rename_i h0; exact (Nat.log2_lt h0).2 h
  have := Nat.pow_le_pow_right (show 0 < 2 by omega) this
  omega
theorem le_ones (n : Nat) : n ≤ onesN n := by
  have := (bitLen_spec n).1
  unfold onesN
  omega
theorem ones_lt {n : Nat} (h : n ≤ 4294967295) : onesN n ≤ 4294967295 := ones_le (k := 32) (by omega)
theorem ones_mono {n m : Nat} (h : n ≤ m) : onesN n ≤ onesN m := ones_le (k := bitLen m) (Nat.lt_of_le_of_lt h (bitLen_spec m).1)
theorem lt_ones (n : Nat) : n < 2 ^ bitLen n := (bitLen_spec n).1
theorem withinS_ok {s : Sp} (h : s.l ≤ s.g) : (withinS s).ok := by
  unfold withinS
  split
  · exact ⟨by simp [allS], by simp [allS]⟩
  · exact ⟨h, by omega⟩
theorem withinS_mono {s t : Sp} (h : s.le t) (ht : t.l ≤ t.g) (hs : s.l ≤ s.g) : (withinS s).le (withinS t) := by
  obtain ⟨h1, h2⟩ := h
  unfold withinS Sp.le
  split <;> split <;> try simp only [allS]
  all_goals omega
theorem withinS_has {s : Sp} {v : Nat} (h1 : s.l ≤ v) (h2 : v ≤ s.g) : (withinS s).has (v % 4294967296) := by
  unfold withinS Sp.has
  split
  · simp only [allS]; omega
  · rw [Nat.mod_eq_of_lt (by omega)]; exact ⟨h1, h2⟩
theorem mk_ok {op : Nat} {d s : Sp} (hd : d.ok) (hs : s.ok) (h0 : op = 14 ∨ op = 15 → 0 < s.l) : (mkS op d s).ok := by
  obtain ⟨d1, d2⟩ := hd
  obtain ⟨s1, s2⟩ := hs
  unfold mkS
  by_cases q1 : op ≤ 2
  · simp only [if_pos q1]
    exact ⟨s1, s2⟩
  simp only [if_neg q1]
  by_cases q2 : op ≤ 4
  · simp only [if_pos q2]
    exact withinS_ok (Nat.add_le_add d1 s1)
  simp only [if_neg q2]
  by_cases q3 : op = 5
  · simp only [if_pos q3]
    split
    · exact ⟨by simp [allS], by simp [allS]⟩
    · exact ⟨by show _ - _ ≤ _ - _; omega, by show _ - _ ≤ _; omega⟩
  simp only [if_neg q3]
  by_cases q4 : op ≤ 7
  · simp only [if_pos q4]
    exact withinS_ok (Nat.mul_le_mul d1 s1)
  simp only [if_neg q4]
  by_cases q5 : op ≤ 9
  · simp only [if_pos q5]
    exact ⟨Nat.zero_le _, by show min _ _ ≤ _; omega⟩
  simp only [if_neg q5]
  by_cases q6 : op = 10
  · simp only [if_pos q6]
    exact ⟨by show max _ _ ≤ onesN _; have := le_ones (max d.g s.g); omega, ones_lt (by omega)⟩
  simp only [if_neg q6]
  by_cases q7 : op = 11
  · simp only [if_pos q7]
    exact ⟨Nat.zero_le _, ones_lt (by omega)⟩
  simp only [if_neg q7]
  by_cases q8 : op = 12
  · simp only [if_pos q8]
    exact withinS_ok (Nat.mul_le_mul_right _ d1)
  simp only [if_neg q8]
  by_cases q9 : op = 13
  · simp only [if_pos q9]
    exact ⟨Nat.div_le_div_right d1, Nat.le_trans (Nat.div_le_self _ _) d2⟩
  simp only [if_neg q9]
  by_cases q10 : op = 14
  · simp only [if_pos q10]
    have := h0 (.inl q10)
    exact ⟨Nat.div_le_div d1 s1 (by omega), Nat.le_trans (Nat.div_le_self _ _) d2⟩
  simp only [if_neg q10]
  · exact ⟨Nat.zero_le _, by show min _ _ ≤ _; omega⟩
theorem mk_has {op a b : Nat} {d s : Sp} (hd : d.ok) (hs : s.ok) (ha : d.has a) (hb : s.has b) (h0 : op = 14 ∨ op = 15 → 0 < s.l) (hop : op ≤ 15) (h5 : op = 12 ∨ op = 13 → s.l = s.g ∧ s.g ≤ 31) : (mkS op d s).has (op2 op a b) := by
  obtain ⟨d1, d2⟩ := hd
  obtain ⟨s1, s2⟩ := hs
  obtain ⟨a1, a2⟩ := ha
  obtain ⟨b1, b2⟩ := hb
  unfold mkS op2
  by_cases q1 : op ≤ 2
  · simp only [if_pos q1]
    exact ⟨b1, b2⟩
  simp only [if_neg q1]
  by_cases q2 : op ≤ 4
  · simp only [if_pos q2]
    exact withinS_has (s := ⟨d.l + s.l, d.g + s.g⟩) (Nat.add_le_add a1 b1) (Nat.add_le_add a2 b2)
  simp only [if_neg q2]
  by_cases q3 : op = 5
  · simp only [if_pos q3]
    split
    · exact ⟨Nat.zero_le _, by show _ ≤ 4294967295; omega⟩
    · have : (a + 4294967296 - b) % 4294967296 = a - b := by omega
      rw [this]
      exact ⟨by show _ - _ ≤ _; omega, by show _ ≤ _ - _; omega⟩
  simp only [if_neg q3]
  by_cases q4 : op ≤ 7
  · simp only [if_pos q4]
    exact withinS_has (s := ⟨d.l * s.l, d.g * s.g⟩) (Nat.mul_le_mul a1 b1) (Nat.mul_le_mul a2 b2)
  simp only [if_neg q4]
  by_cases q5 : op ≤ 9
  · simp only [if_pos q5]
    have h1 : a &&& b ≤ a := Nat.and_le_left
    have h2 : a &&& b ≤ b := Nat.and_le_right
    exact ⟨Nat.zero_le _, by show _ ≤ min _ _; omega⟩
  simp only [if_neg q5]
  by_cases q6 : op = 10
  · simp only [if_pos q6]
    have h1 : a ≤ a ||| b := Nat.left_le_or
    have h2 : b ≤ a ||| b := Nat.right_le_or
    have h3 := lt_ones (max d.g s.g)
    have h4 : a ||| b < 2 ^ bitLen (max d.g s.g) := Nat.or_lt_two_pow (by omega) (by omega)
    exact ⟨by show max _ _ ≤ _; omega, by show _ ≤ onesN _; unfold onesN; omega⟩
  simp only [if_neg q6]
  by_cases q7 : op = 11
  · simp only [if_pos q7]
    have h3 := lt_ones (max d.g s.g)
    have h4 : a ^^^ b < 2 ^ bitLen (max d.g s.g) := Nat.xor_lt_two_pow (by omega) (by omega)
    exact ⟨Nat.zero_le _, by show _ ≤ onesN _; unfold onesN; omega⟩
  simp only [if_neg q7]
  by_cases q8 : op = 12
  · simp only [if_pos q8]
    have h6 := h5 (.inl q8)
    have hb' : b = s.l := by omega
    subst hb'
    rw [Nat.min_eq_left (by omega)]
    exact withinS_has (s := ⟨d.l * 2 ^ s.l, d.g * 2 ^ s.l⟩) (Nat.mul_le_mul_right _ a1) (Nat.mul_le_mul_right _ a2)
  simp only [if_neg q8]
  by_cases q9 : op = 13
  · simp only [if_pos q9]
    have h6 := h5 (.inr q9)
    have hb' : b = s.l := by omega
    subst hb'
    rw [Nat.min_eq_left (by omega)]
    exact ⟨Nat.div_le_div_right a1, Nat.div_le_div_right a2⟩
  simp only [if_neg q9]
  by_cases q10 : op = 14
  · simp only [if_pos q10]
    have := h0 (.inl q10)
    exact ⟨Nat.div_le_div a1 b2 (by omega), Nat.div_le_div a2 b1 (by omega)⟩
  simp only [if_neg q10]
  · have := h0 (.inr (by omega))
    have h1 := Nat.mod_le a b
    have h2 := Nat.mod_lt a (show b > 0 by omega)
    exact ⟨Nat.zero_le _, by show _ ≤ min _ _; omega⟩
theorem mk_mono {op : Nat} {d s d' s' : Sp} (hd : d.ok) (hs : s.ok) (hd' : d'.ok) (hs' : s'.ok) (a : d'.le d) (b : s'.le s) (h0 : op = 14 ∨ op = 15 → 0 < s.l) (h5 : op = 12 ∨ op = 13 → s'.l = s.l) : (mkS op d' s').le (mkS op d s) := by
  obtain ⟨d1, d2⟩ := hd
  obtain ⟨s1, s2⟩ := hs
  obtain ⟨e1, e2⟩ := hd'
  obtain ⟨t1, t2⟩ := hs'
  obtain ⟨a1, a2⟩ := a
  obtain ⟨b1, b2⟩ := b
  unfold mkS
  by_cases q1 : op ≤ 2
  · simp only [if_pos q1]
    exact ⟨b1, b2⟩
  simp only [if_neg q1]
  by_cases q2 : op ≤ 4
  · simp only [if_pos q2]
    exact withinS_mono (s := ⟨_, _⟩) (t := ⟨_, _⟩) ⟨Nat.add_le_add a1 b1, Nat.add_le_add a2 b2⟩ (Nat.add_le_add d1 s1) (Nat.add_le_add e1 t1)
  simp only [if_neg q2]
  by_cases q3 : op = 5
  · simp only [if_pos q3]
    split <;> split <;> refine ⟨?_, ?_⟩ <;> simp only [allS] <;> omega
  simp only [if_neg q3]
  by_cases q4 : op ≤ 7
  · simp only [if_pos q4]
    exact withinS_mono (s := ⟨_, _⟩) (t := ⟨_, _⟩) ⟨Nat.mul_le_mul a1 b1, Nat.mul_le_mul a2 b2⟩ (Nat.mul_le_mul d1 s1) (Nat.mul_le_mul e1 t1)
  simp only [if_neg q4]
  by_cases q5 : op ≤ 9
  · simp only [if_pos q5]
    exact ⟨Nat.le_refl _, by show min _ _ ≤ min _ _; omega⟩
  simp only [if_neg q5]
  by_cases q6 : op = 10
  · simp only [if_pos q6]
    exact ⟨by show max _ _ ≤ max _ _; omega, ones_mono (by omega)⟩
  simp only [if_neg q6]
  by_cases q7 : op = 11
  · simp only [if_pos q7]
    exact ⟨Nat.le_refl _, ones_mono (by omega)⟩
  simp only [if_neg q7]
  by_cases q8 : op = 12
  · simp only [if_pos q8]
    rw [h5 (.inl q8)]
    exact withinS_mono (s := ⟨_, _⟩) (t := ⟨_, _⟩) ⟨Nat.mul_le_mul_right _ a1, Nat.mul_le_mul_right _ a2⟩ (Nat.mul_le_mul_right _ d1) (Nat.mul_le_mul_right _ e1)
  simp only [if_neg q8]
  by_cases q9 : op = 13
  · simp only [if_pos q9]
    rw [h5 (.inr q9)]
    exact ⟨Nat.div_le_div_right a1, Nat.div_le_div_right a2⟩
  simp only [if_neg q9]
  by_cases q10 : op = 14
  · simp only [if_pos q10]
    have := h0 (.inl q10)
    exact ⟨Nat.div_le_div a1 b2 (by omega), Nat.div_le_div a2 b1 (by omega)⟩
  simp only [if_neg q10]
  · exact ⟨Nat.le_refl _, by show min _ _ ≤ min _ _; omega⟩

/-- What is behind an instruction: two ways, or an error. -/
inductive Bh where
  | ok : Kn → Kn → Bh
  | no : Nat → Bh
def Ins8.srcS (i : Ins8) (k : Kn) : Sp := if i.useImm then ⟨i.imm, i.imm⟩ else (k.r i.src).sp
def sumB (i : Ins8) (k : Kn) : Bh :=
  if 3 ≤ i.op ∧ (k.r i.dst).s = false then .no 161 else if i.useImm = false ∧ (k.r i.src).s = false then .no 161
  else if (i.op = 14 ∨ i.op = 15) ∧ (i.srcS k).l = 0 then .no 162 else .ok (k.put i.dst (mkS i.op (if i.op ≤ 2 then ⟨0, 0⟩ else (k.r i.dst).sp) (i.srcS k))) kn0
def ldB (size : Nat) (i : Ins8) (k : Kn) : Bh :=
  if (k.r i.src).s = false then .no 161 else if 0 ≤ ((k.r i.src).l : Int) + i.off ∧ ((k.r i.src).g : Int) + i.off < size then .ok (k.put i.dst ⟨0, 255⟩) kn0 else .no 163
def stsB (i : Ins8) (k : Kn) : Bh :=
  if (k.r i.dst).s = false then .no 161 else if (k.r i.src).s = false then .no 161
  else if 0 ≤ ((k.r i.dst).l : Int) + i.off ∧ ((k.r i.dst).g : Int) + i.off < 64 then .ok k kn0 else .no 163
def jeqN (i : Ins8) (k : Kn) : Kn :=
  if (k.r i.dst).l = i.imm ∧ (k.r i.dst).g = i.imm then kn0
  else k.put i.dst (if i.imm = (k.r i.dst).l then ⟨(k.r i.dst).l + 1, (k.r i.dst).g⟩ else if i.imm = (k.r i.dst).g then ⟨(k.r i.dst).l, (k.r i.dst).g - 1⟩ else (k.r i.dst).sp)
def jeqJ (i : Ins8) (k : Kn) : Kn := if (k.r i.dst).l ≤ i.imm ∧ i.imm ≤ (k.r i.dst).g then k.put i.dst ⟨i.imm, i.imm⟩ else kn0
def jeqB (i : Ins8) (k : Kn) : Bh := if (k.r i.dst).s = false then .no 161 else .ok (jeqN i k) (jeqJ i k)
def bothK (i : Ins8) (k : Kn) (d s : Sp) : Kn := if i.op = 22 then (k.put i.dst d).put i.src s else k.put i.dst d
def jltN (i : Ins8) (k : Kn) (d s : Sp) : Kn := if s.l ≤ d.g then bothK i k ⟨max d.l s.l, d.g⟩ ⟨s.l, min s.g d.g⟩ else kn0
def jltJ (i : Ins8) (k : Kn) (d s : Sp) : Kn := if d.l < s.g then bothK i k ⟨d.l, min d.g (s.g - 1)⟩ ⟨max s.l (d.l + 1), s.g⟩ else kn0
def jltB (i : Ins8) (k : Kn) : Bh :=
  if (k.r i.dst).s = false then .no 161 else if i.op = 22 ∧ (k.r i.src).s = false then .no 161
  else if i.op = 22 ∧ i.dst = i.src then .ok k kn0 else .ok (jltN i k (k.r i.dst).sp (i.srcS k)) (jltJ i k (k.r i.dst).sp (i.srcS k))
def callK (k : Kn) : Kn := ⟨k.come, fun m => if m = 0 then ⟨true, 0, 4294967295⟩ else if m ≤ 5 then rg0 else k.r m⟩
def behindC (ctx : Nat) (i : Ins8) (k : Kn) : Bh :=
  if i.op ≤ 15 then sumB i k else if i.op = 16 then ldB ctx i k else if i.op = 17 then ldB 64 i k else if i.op = 18 then stsB i k else if i.op = 19 then .ok kn0 k
  else if i.op = 20 then jeqB i k else if i.op ≤ 22 then jltB i k else if i.op = 23 then .ok (callK k) kn0 else if (k.r 0).s = false then .no 161 else .ok kn0 kn0
def behindB (ctx : Nat) (i : Ins8) (k : Kn) : Bh := if k.come then behindC ctx i k else .ok kn0 kn0
def Rg.ok (r : Rg) : Prop := r.l ≤ r.g ∧ r.g ≤ 4294967295 ∧ (r.s = false → r.l = 0 ∧ r.g = 0)
def Kn.right (k : Kn) : Prop := ∀ n, (k.r n).ok
theorem sp_ok {l g : Nat} (h1 : l ≤ g) (h2 : g ≤ 4294967295) : (Sp.mk l g).ok := ⟨h1, h2⟩
theorem kn0_right : kn0.right := fun n => ⟨by simp [kn0, rg0], by simp [kn0, rg0], by simp [kn0, rg0]⟩
theorem Kn.right.sp {k : Kn} (h : k.right) (n : Nat) : (k.r n).sp.ok := ⟨(h n).1, (h n).2.1⟩
theorem put_right {k : Kn} (h : k.right) (n : Nat) {s : Sp} (hs : s.ok) : (k.put n s).right := fun m => by
  unfold Kn.put upd
  by_cases e : m = n
  · simp only [if_pos e]; exact ⟨hs.1, hs.2, fun e => by cases e⟩
  · simp only [if_neg e]; exact h m
theorem both_right {i : Ins8} {k : Kn} (h : k.right) {d s : Sp} (hd : d.ok) (hs : s.ok) : (bothK i k d s).right := by
  unfold bothK
  split
  · exact put_right (put_right h _ hd) _ hs
  · exact put_right h _ hd
theorem src_ok {i : Ins8} {k : Kn} (hi : i.imm ≤ 4294967295) (h : k.right) : (i.srcS k).ok := by
  unfold Ins8.srcS
  split
  · exact ⟨Nat.le_refl _, hi⟩
  · exact h.sp _
theorem call_right {k : Kn} (h : k.right) : (callK k).right := fun m => by
  unfold callK
  by_cases e : m = 0
  · simp only [if_pos e]; exact ⟨Nat.zero_le _, Nat.le_refl _, fun e => by cases e⟩
  · simp only [if_neg e]
    by_cases e2 : m ≤ 5
    · simp only [if_pos e2]; exact kn0_right 0
    · simp only [if_neg e2]; exact h m
theorem behind_right {ctx : Nat} {i : Ins8} {k n j : Kn} (hi : i.imm ≤ 4294967295) (h : k.right) (hb : behindB ctx i k = .ok n j) : n.right ∧ j.right := by
  have hs := src_ok hi h
  have hd := h.sp i.dst
  have z := kn0_right
  unfold behindB at hb
  split at hb
  case isFalse => cases hb; exact ⟨z, z⟩
  unfold behindC at hb
  split at hb
  · unfold sumB at hb
    split at hb
    · cases hb
    split at hb
    · cases hb
    split at hb
    · cases hb
    · rename_i h14
      cases hb
      refine ⟨put_right h _ (mk_ok ?_ hs (fun e => ?_)), z⟩
      · split
        · exact ⟨Nat.le_refl _, Nat.zero_le _⟩
        · exact hd
      · rcases Nat.eq_zero_or_pos (i.srcS k).l with e0 | e0
        · exact absurd ⟨e, e0⟩ h14
        · exact e0
  have ld : ∀ size, ldB size i k = .ok n j → n.right ∧ j.right := fun size hb => by
    unfold ldB at hb
    split at hb
    · cases hb
    split at hb
    · cases hb; exact ⟨put_right h _ ⟨by simp, by simp⟩, z⟩
    · cases hb
  split at hb
  · exact ld _ hb
  split at hb
  · exact ld _ hb
  split at hb
  · unfold stsB at hb
    split at hb
    · cases hb
    split at hb
    · cases hb
    split at hb
    · cases hb; exact ⟨h, z⟩
    · cases hb
  split at hb
  · cases hb; exact ⟨z, h⟩
  obtain ⟨d1, d2⟩ := hd
  split at hb
  · unfold jeqB at hb
    split at hb
    · cases hb
    · injection hb with e1 e2
      subst e1; subst e2
      refine ⟨?_, ?_⟩
      · unfold jeqN
        by_cases e : (k.r i.dst).l = i.imm ∧ (k.r i.dst).g = i.imm
        · rw [if_pos e]; exact z
        · rw [if_neg e]
          refine put_right h _ ?_
          have d1' : (k.r i.dst).l ≤ (k.r i.dst).g := d1
          have d2' : (k.r i.dst).g ≤ 4294967295 := d2
          by_cases e1 : i.imm = (k.r i.dst).l
          · rw [if_pos e1]; exact sp_ok (by omega) d2'
          · rw [if_neg e1]
            by_cases e2 : i.imm = (k.r i.dst).g
            · rw [if_pos e2]; exact sp_ok (by omega) (by omega)
            · rw [if_neg e2]; exact ⟨d1, d2⟩
      · unfold jeqJ
        split
        · exact put_right h _ ⟨Nat.le_refl _, hi⟩
        · exact z
  split at hb
  · unfold jltB at hb
    split at hb
    · cases hb
    split at hb
    · cases hb
    split at hb
    · cases hb; exact ⟨h, z⟩
    · injection hb with e1 e2
      subst e1; subst e2
      obtain ⟨s1, s2⟩ := hs
      refine ⟨?_, ?_⟩
      · unfold jltN
        split
        · exact both_right h (sp_ok (by omega) d2) (sp_ok (by omega) (by omega))
        · exact z
      · unfold jltJ
        split
        · exact both_right h (sp_ok (by omega) (by omega)) (sp_ok (by omega) s2)
        · exact z
  split at hb
  · cases hb; exact ⟨call_right h, z⟩
  split at hb
  · cases hb
  · cases hb; exact ⟨z, z⟩
/-- How registers stand is within what is known. -/
def Kn.has (k : Kn) (set : Nat → Bool) (reg : Nat → Nat) : Prop := k.come = true ∧ ∀ n, n < 10 → (k.r n).s = true → set n = true ∧ (k.r n).l ≤ reg n ∧ reg n ≤ (k.r n).g
theorem put_has {k : Kn} {set : Nat → Bool} {reg : Nat → Nat} (h : k.has set reg) (n v : Nat) {s : Sp} (hs : s.has v) : (k.put n s).has (upd set n true) (upd reg n v) := by
  refine ⟨h.1, fun m hm hx => ?_⟩
  unfold Kn.put upd at hx ⊢
  by_cases e : m = n
  · simp only [if_pos e]; exact ⟨trivial, hs.1, hs.2⟩
  · simp only [if_neg e] at hx ⊢; exact h.2 m hm hx
theorem put_cut {k : Kn} {set : Nat → Bool} {reg : Nat → Nat} (h : k.has set reg) (n : Nat) {s : Sp} (hn : set n = true) (hs : s.has (reg n)) : (k.put n s).has set reg := by
  refine ⟨h.1, fun m hm hx => ?_⟩
  unfold Kn.put upd at hx ⊢
  by_cases e : m = n
  · subst e; simp only [if_true]; exact ⟨hn, hs.1, hs.2⟩
  · simp only [if_neg e] at hx ⊢; exact h.2 m hm hx
theorem both_cut {i : Ins8} {k : Kn} {set : Nat → Bool} {reg : Nat → Nat} (h : k.has set reg) {d s : Sp} (hd : set i.dst = true) (hdv : d.has (reg i.dst)) (hs : i.op = 22 → set i.src = true ∧ s.has (reg i.src)) : (bothK i k d s).has set reg := by
  unfold bothK
  split
  · rename_i e; exact put_cut (put_cut h _ hd hdv) _ (hs e).1 (hs e).2
  · exact put_cut h _ hd hdv
/-- One is within another. -/
def Kn.le (a b : Kn) : Prop := a.come = true → b.come = true ∧ ∀ n, n < 10 → (b.r n).s = true → (a.r n).s = true ∧ (b.r n).l ≤ (a.r n).l ∧ (a.r n).g ≤ (b.r n).g
theorem Kn.le.refl (a : Kn) : a.le a := fun h => ⟨h, fun n _ e => ⟨e, Nat.le_refl _, Nat.le_refl _⟩⟩
theorem kn0_le (b : Kn) : kn0.le b := fun h => by cases h
theorem put_le {a b : Kn} (h : a.le b) (n : Nat) {s t : Sp} (hs : s.le t) : (a.put n s).le (b.put n t) := fun hc => by
  obtain ⟨h1, h2⟩ := h hc
  refine ⟨h1, fun m hm hx => ?_⟩
  unfold Kn.put upd at hx ⊢
  by_cases e : m = n
  · simp only [if_pos e]; exact ⟨trivial, hs.1, hs.2⟩
  · simp only [if_neg e] at hx ⊢; exact h2 m hm hx
theorem both_le {i : Ins8} {a b : Kn} (h : a.le b) {d s d' s' : Sp} (hd : d.le d') (hs : s.le s') : (bothK i a d s).le (bothK i b d' s') := by
  unfold bothK
  split
  · exact put_le (put_le h _ hd) _ hs
  · exact put_le h _ hd

def Bh.le (a b : Bh) : Prop := match b with
  | .no _ => True
  | .ok n j => match a with
    | .no _ => False
    | .ok n' j' => n'.le n ∧ j'.le j
theorem bh_le {n j n' j' : Kn} (h1 : n'.le n) (h2 : j'.le j) : (Bh.ok n' j').le (.ok n j) := ⟨h1, h2⟩
/-- What is known of fewer ways is within what is known of more. -/
theorem behind_mono {ctx : Nat} {i : Ins8} {k k' : Kn} (hi : i.imm ≤ 4294967295) (hid : i.dst < 10) (his : i.src < 10) (hu : (i.op = 12 ∨ i.op = 13 → i.useImm = true) ∧ (i.op = 22 → i.useImm = false) ∧ (i.op = 21 → i.useImm = true)) (h : k.right) (h' : k'.right) (hc : k.come = true) (hc' : k'.come = true) (hs : ∀ n, n < 10 → (k.r n).s = (k'.r n).s)
    (hl : ∀ n, n < 10 → (k.r n).s = true → (k.r n).l ≤ (k'.r n).l ∧ (k'.r n).g ≤ (k.r n).g) : (behindB ctx i k').le (behindB ctx i k) := by
  have hle : k'.le k := fun _ => ⟨hc, fun n hn e => ⟨by rw [← hs n hn]; exact e, hl n hn e⟩⟩
  have z := kn0_le kn0
  have hsd := hs _ hid
  have hss := hs _ his
  have hld := hl _ hid
  have hls := hl _ his
  unfold behindB
  rw [hc, hc']
  simp only [if_true]
  have src_le : i.useImm = true ∨ (k.r i.src).s = true → (i.srcS k').le (i.srcS k) := fun e => by
    unfold Ins8.srcS
    by_cases e2 : i.useImm = true
    · simp only [if_pos e2]; exact ⟨Nat.le_refl _, Nat.le_refl _⟩
    · simp only [if_neg e2]
      rcases e with e | e
      · exact absurd e e2
      · exact hls e
  unfold behindC
  by_cases q1 : i.op ≤ 15
  · simp only [if_pos q1]
    unfold sumB
    rw [← hsd, ← hss]
    by_cases a1 : 3 ≤ i.op ∧ (k.r i.dst).s = false
    · simp only [if_pos a1]; exact trivial
    simp only [if_neg a1]
    by_cases a2 : i.useImm = false ∧ (k.r i.src).s = false
    · simp only [if_pos a2]; exact trivial
    simp only [if_neg a2]
    have sl := src_le (by
      rcases hx : i.useImm with _ | _
      · exact .inr (by rcases hy : (k.r i.src).s with _ | _; exact absurd ⟨hx, hy⟩ a2; rfl)
      · exact .inl rfl)
    by_cases a3 : (i.op = 14 ∨ i.op = 15) ∧ (i.srcS k).l = 0
    · simp only [if_pos a3]; exact trivial
    have a4 : ¬ ((i.op = 14 ∨ i.op = 15) ∧ (i.srcS k').l = 0) := fun e => a3 ⟨e.1, by have := sl.1; omega⟩
    simp only [if_neg a3, if_neg a4]
    refine bh_le (put_le hle _ ?_) z
    by_cases a5 : i.op ≤ 2
    · unfold mkS; simp only [if_pos a5]; exact sl
    simp only [if_neg a5]
    have hd1 : (k.r i.dst).s = true := by rcases hy : (k.r i.dst).s with _ | _; exact absurd ⟨by omega, hy⟩ a1; rfl
    refine mk_mono (h.sp _) (src_ok hi h) (h'.sp _) (src_ok hi h') (hld hd1) sl (fun e => ?_) (fun e => ?_)
    · rcases Nat.eq_zero_or_pos (i.srcS k).l with e0 | e0
      · exact absurd ⟨e, e0⟩ a3
      · exact e0
    · have := hu.1 e
      unfold Ins8.srcS
      simp only [if_pos this]
  simp only [if_neg q1]
  have ld : ∀ size, (ldB size i k').le (ldB size i k) := fun size => by
    unfold ldB
    rw [← hss]
    by_cases a1 : (k.r i.src).s = false
    · simp only [if_pos a1]; exact trivial
    simp only [if_neg a1]
    have := hls (by simpa using a1)
    by_cases a2 : 0 ≤ ((k.r i.src).l : Int) + i.off ∧ ((k.r i.src).g : Int) + i.off < size
    · have a3 : 0 ≤ ((k'.r i.src).l : Int) + i.off ∧ ((k'.r i.src).g : Int) + i.off < size := by omega
      simp only [if_pos a2, if_pos a3]
      exact bh_le (put_le hle _ ⟨Nat.le_refl _, Nat.le_refl _⟩) z
    · simp only [if_neg a2]; exact trivial
  by_cases q2 : i.op = 16
  · simp only [if_pos q2]; exact ld _
  simp only [if_neg q2]
  by_cases q3 : i.op = 17
  · simp only [if_pos q3]; exact ld _
  simp only [if_neg q3]
  by_cases q4 : i.op = 18
  · simp only [if_pos q4]
    unfold stsB
    rw [← hsd, ← hss]
    by_cases a1 : (k.r i.dst).s = false
    · simp only [if_pos a1]; exact trivial
    simp only [if_neg a1]
    by_cases a0 : (k.r i.src).s = false
    · simp only [if_pos a0]; exact trivial
    simp only [if_neg a0]
    have := hld (by simpa using a1)
    by_cases a2 : 0 ≤ ((k.r i.dst).l : Int) + i.off ∧ ((k.r i.dst).g : Int) + i.off < 64
    · have a3 : 0 ≤ ((k'.r i.dst).l : Int) + i.off ∧ ((k'.r i.dst).g : Int) + i.off < 64 := by omega
      simp only [if_pos a2, if_pos a3]
      exact bh_le hle z
    · simp only [if_neg a2]; exact trivial
  simp only [if_neg q4]
  by_cases q5 : i.op = 19
  · simp only [if_pos q5]; exact bh_le z hle
  simp only [if_neg q5]
  have d1 := (h i.dst).1
  have d2 := (h' i.dst).1
  by_cases q6 : i.op = 20
  · simp only [if_pos q6]
    unfold jeqB
    rw [← hsd]
    by_cases a1 : (k.r i.dst).s = false
    · simp only [if_pos a1]; exact trivial
    simp only [if_neg a1]
    obtain ⟨l1, l2⟩ := hld (by simpa using a1)
    refine bh_le ?_ ?_
    · unfold jeqN
      by_cases b1 : (k'.r i.dst).l = i.imm ∧ (k'.r i.dst).g = i.imm
      · simp only [if_pos b1]; exact kn0_le _
      have b2 : ¬ ((k.r i.dst).l = i.imm ∧ (k.r i.dst).g = i.imm) := by omega
      simp only [if_neg b1, if_neg b2]
      refine put_le hle _ ?_
      unfold Rg.sp Sp.le
      by_cases c1 : i.imm = (k'.r i.dst).l
      · simp only [if_pos c1]
        by_cases c2 : i.imm = (k.r i.dst).l
        · simp only [if_pos c2]; omega
        · simp only [if_neg c2]
          by_cases c3 : i.imm = (k.r i.dst).g
          · omega
          · simp only [if_neg c3]; omega
      · simp only [if_neg c1]
        by_cases c2 : i.imm = (k.r i.dst).l
        · simp only [if_pos c2]
          by_cases c4 : i.imm = (k'.r i.dst).g
          · omega
          · simp only [if_neg c4]; omega
        · simp only [if_neg c2]
          by_cases c3 : i.imm = (k.r i.dst).g
          · simp only [if_pos c3]
            by_cases c4 : i.imm = (k'.r i.dst).g
            · simp only [if_pos c4]; omega
            · simp only [if_neg c4]; omega
          · simp only [if_neg c3]
            by_cases c4 : i.imm = (k'.r i.dst).g
            · simp only [if_pos c4]; omega
            · simp only [if_neg c4]; omega
    · unfold jeqJ
      by_cases b1 : (k'.r i.dst).l ≤ i.imm ∧ i.imm ≤ (k'.r i.dst).g
      · have b2 : (k.r i.dst).l ≤ i.imm ∧ i.imm ≤ (k.r i.dst).g := by omega
        simp only [if_pos b1, if_pos b2]
        exact put_le hle _ ⟨Nat.le_refl _, Nat.le_refl _⟩
      · simp only [if_neg b1]; exact kn0_le _
  simp only [if_neg q6]
  by_cases q7 : i.op ≤ 22
  · simp only [if_pos q7]
    unfold jltB
    rw [← hsd, ← hss]
    by_cases a1 : (k.r i.dst).s = false
    · simp only [if_pos a1]; exact trivial
    simp only [if_neg a1]
    by_cases a2 : i.op = 22 ∧ (k.r i.src).s = false
    · simp only [if_pos a2]; exact trivial
    simp only [if_neg a2]
    by_cases a3 : i.op = 22 ∧ i.dst = i.src
    · simp only [if_pos a3]; exact bh_le hle z
    simp only [if_neg a3]
    obtain ⟨l1, l2⟩ := hld (by simpa using a1)
    obtain ⟨m1, m2⟩ := src_le (by
      by_cases e : i.op = 22
      · exact .inr (by rcases hy : (k.r i.src).s with _ | _; exact absurd ⟨e, hy⟩ a2; rfl)
      · exact .inl (hu.2.2 (by omega)))
    have s1 := (src_ok hi h').1
    refine bh_le ?_ ?_
    · unfold jltN Rg.sp
      by_cases b1 : (i.srcS k').l ≤ (k'.r i.dst).g
      · have b2 : (i.srcS k).l ≤ (k.r i.dst).g := by omega
        simp only [if_pos b1, if_pos b2]
        refine both_le hle ?_ ?_ <;> unfold Sp.le <;> simp only <;> omega
      · simp only [if_neg b1]; exact kn0_le _
    · unfold jltJ Rg.sp
      by_cases b1 : (k'.r i.dst).l < (i.srcS k').g
      · have b2 : (k.r i.dst).l < (i.srcS k).g := by omega
        simp only [if_pos b1, if_pos b2]
        refine both_le hle ?_ ?_ <;> unfold Sp.le <;> simp only <;> omega
      · simp only [if_neg b1]; exact kn0_le _
  simp only [if_neg q7]
  by_cases q8 : i.op = 23
  · simp only [if_pos q8]
    refine bh_le (fun _ => ⟨hc, fun n hn hx => ?_⟩) z
    unfold callK at hx ⊢
    by_cases e : n = 0
    · simp only [if_pos e]; exact ⟨trivial, Nat.le_refl _, Nat.le_refl _⟩
    · simp only [if_neg e] at hx ⊢
      by_cases e2 : n ≤ 5
      · simp only [if_pos e2] at hx; exact absurd hx (by simp [rg0])
      · simp only [if_neg e2] at hx ⊢; exact ⟨by rw [← hs n hn]; exact hx, hl n hn hx⟩
  simp only [if_neg q8]
  rw [← hs 0 (by omega)]
  by_cases q9 : (k.r 0).s = false
  · simp only [if_pos q9]; exact trivial
  · simp only [if_neg q9]; exact bh_le z z
/-- What is known by two ways. -/
def joinK (a b : Kn) : Kn :=
  if a.come = false then b else if b.come = false then a else ⟨true, fun n => if (a.r n).s && (b.r n).s then ⟨true, min (a.r n).l (b.r n).l, max (a.r n).g (b.r n).g⟩ else rg0⟩
theorem join_right {a b : Kn} (ha : a.right) (hb : b.right) : (joinK a b).right := by
  unfold joinK
  split
  · exact hb
  split
  · exact ha
  intro n
  have h1 := ha n
  have h2 := hb n
  by_cases e : ((a.r n).s && (b.r n).s) = true
  · simp only [if_pos e]
    exact ⟨by have := h1.1; have := h2.1; show min _ _ ≤ max _ _; omega, by have := h1.2.1; have := h2.2.1; show max _ _ ≤ _; omega, fun e => by cases e⟩
  · simp only [if_neg e]; exact kn0_right 0
theorem join_l {a b : Kn} {set : Nat → Bool} {reg : Nat → Nat} (h : a.has set reg) : (joinK a b).has set reg := by
  unfold joinK
  rw [h.1]
  simp only [Bool.true_eq_false, if_false]
  split
  · exact h
  refine ⟨rfl, fun n hn hx => ?_⟩
  by_cases e : ((a.r n).s && (b.r n).s) = true
  · simp only [if_pos e]
    have := h.2 n hn (by simp at e; exact e.1)
    exact ⟨this.1, by omega, by omega⟩
  · simp only [if_neg e] at hx; exact absurd hx (by simp [rg0])
theorem join_r {a b : Kn} {set : Nat → Bool} {reg : Nat → Nat} (h : b.has set reg) : (joinK a b).has set reg := by
  unfold joinK
  rw [h.1]
  split
  · exact h
  simp only [Bool.true_eq_false, if_false]
  refine ⟨rfl, fun n hn hx => ?_⟩
  by_cases e : ((a.r n).s && (b.r n).s) = true
  · simp only [if_pos e]
    have := h.2 n hn (by simp at e; exact e.2)
    exact ⟨this.1, by omega, by omega⟩
  · simp only [if_neg e] at hx; exact absurd hx (by simp [rg0])
theorem join_come (a b : Kn) : (joinK a b).come = (a.come || b.come) := by
  unfold joinK
  rcases ha : a.come with _ | _ <;> rcases hb : b.come with _ | _ <;> simp [ha, hb]

/-- What is known ahead of each instruction, or an error. -/
inductive KR where
  | ok : (Nat → Kn) → KR
  | no : Nat → KR
def putK (K : Nat → Kn) (x : Nat) (n : Kn) : Nat → Kn := if n.come = true then upd K x (joinK (K x) n) else K
def stepK (ctx N a : Nat) (i : Ins8) (K : Nat → Kn) : KR :=
  if (K a).come = false then .ok K else
  match behindB ctx i (K a) with
  | .no e => .no e
  | .ok n j => if (n.come = true ∧ N ≤ a + 1) ∨ ((19 ≤ i.op ∧ i.op ≤ 22) ∧ N ≤ a + 1 + i.off.toNat) then .no 164 else .ok (putK (putK K (a + 1) n) (a + 1 + i.off.toNat) j)
def runK (ctx N : Nat) : List Ins8 → Nat → (Nat → Kn) → KR
  | [], _, K => .ok K
  | i :: is, a, K => match stepK ctx N a i K with
    | .no e => .no e
    | .ok K' => runK ctx N is (a + 1) K'
def K0 : Nat → Kn := fun x => if x = 0 then ⟨true, fun _ => rg0⟩ else kn0
theorem putK_other (K : Nat → Kn) (x : Nat) (n : Kn) (b : Nat) (h : b ≠ x) : putK K x n b = K b := by
  unfold putK
  split
  · unfold upd; exact if_neg h
  · rfl
theorem putK_has {K : Nat → Kn} {x b : Nat} {n : Kn} {set : Nat → Bool} {reg : Nat → Nat} (h : (K b).has set reg) : (putK K x n b).has set reg := by
  unfold putK
  split
  · unfold upd
    by_cases e : b = x
    · subst e; simp only [if_true]; exact join_l h
    · simp only [if_neg e]; exact h
  · exact h
theorem putK_new {K : Nat → Kn} {x : Nat} {n : Kn} {set : Nat → Bool} {reg : Nat → Nat} (h : n.has set reg) : (putK K x n x).has set reg := by
  unfold putK
  rw [if_pos h.1]
  unfold upd
  simp only [if_true]
  exact join_r h
theorem putK_right {K : Nat → Kn} {x : Nat} {n : Kn} (h : ∀ b, (K b).right) (hn : n.right) (b : Nat) : (putK K x n b).right := by
  unfold putK
  split
  · unfold upd
    by_cases e : b = x
    · simp only [if_pos e]; exact join_right (h x) hn
    · simp only [if_neg e]; exact h b
  · exact h b
theorem stepK_keep {ctx N a : Nat} {i : Ins8} {K K' : Nat → Kn} (h : stepK ctx N a i K = .ok K') : (∀ b, b ≤ a → K' b = K b) ∧ (∀ b set reg, (K b).has set reg → (K' b).has set reg) := by
  unfold stepK at h
  split at h
  · cases h; exact ⟨fun _ _ => rfl, fun _ _ _ h => h⟩
  split at h
  · cases h
  · split at h
    · cases h
    · cases h
      exact ⟨fun b hb => by rw [putK_other _ _ _ _ (by omega), putK_other _ _ _ _ (by omega)], fun b set reg hh => putK_has (putK_has hh)⟩
theorem stepK_right {ctx N a : Nat} {i : Ins8} {K K' : Nat → Kn} (hi : i.imm ≤ 4294967295) (h : stepK ctx N a i K = .ok K') (hr : ∀ b, (K b).right) (b : Nat) : (K' b).right := by
  unfold stepK at h
  split at h
  · cases h; exact hr b
  split at h
  · cases h
  · rename_i n j hb
    have := behind_right hi (hr a) hb
    split at h
    · cases h
    · cases h
      exact putK_right (putK_right hr this.1) this.2 b
theorem runK_keep {ctx N : Nat} : ∀ (is : List Ins8) (a : Nat) (K K' : Nat → Kn), runK ctx N is a K = .ok K' → (∀ b, b ≤ a → K' b = K b) ∧ (∀ b set reg, (K b).has set reg → (K' b).has set reg)
  | [], a, K, K', h => by
    unfold runK at h
    cases h; exact ⟨fun _ _ => rfl, fun _ _ _ h => h⟩
  | i :: is, a, K, K', h => by
    unfold runK at h
    split at h
    · cases h
    · rename_i K1 h1
      obtain ⟨a1, a2⟩ := stepK_keep h1
      obtain ⟨b1, b2⟩ := runK_keep is (a + 1) K1 K' h
      exact ⟨fun b hb => by rw [b1 b (by omega), a1 b hb], fun b set reg hh => b2 _ _ _ (a2 _ _ _ hh)⟩
theorem jump_come {ctx : Nat} {i : Ins8} {k n j : Kn} (h : behindB ctx i k = .ok n j) (hj : j.come = true) : 19 ≤ i.op ∧ i.op ≤ 22 := by
  have z : ∀ {x : Prop}, kn0.come = true → x := fun h => by cases h
  unfold behindB at h
  split at h
  case isFalse => cases h; exact z hj
  unfold behindC at h
  by_cases q1 : i.op ≤ 15
  · simp only [if_pos q1] at h
    unfold sumB at h
    repeat' split at h
    all_goals first | (cases h; done) | (cases h; exact z hj)
  simp only [if_neg q1] at h
  have ld : ∀ size, ldB size i k = .ok n j → 19 ≤ i.op ∧ i.op ≤ 22 := fun size h => by
    unfold ldB at h
    repeat' split at h
    all_goals first | (cases h; done) | (cases h; exact z hj)
  by_cases q2 : i.op = 16
  · simp only [if_pos q2] at h; exact ld _ h
  simp only [if_neg q2] at h
  by_cases q3 : i.op = 17
  · simp only [if_pos q3] at h; exact ld _ h
  simp only [if_neg q3] at h
  by_cases q4 : i.op = 18
  · simp only [if_pos q4] at h
    unfold stsB at h
    repeat' split at h
    all_goals first | (cases h; done) | (cases h; exact z hj)
  by_cases q5 : i.op ≤ 22
  · exact ⟨by omega, q5⟩
  simp only [if_neg q4, if_neg (show ¬ i.op = 19 by omega), if_neg (show ¬ i.op = 20 by omega), if_neg q5] at h
  by_cases q6 : i.op = 23
  · simp only [if_pos q6] at h; cases h; exact z hj
  · simp only [if_neg q6] at h
    split at h
    · cases h
    · cases h; exact z hj
theorem runK_sound {ctx N : Nat} : ∀ (is : List Ins8) (a : Nat) (K K' : Nat → Kn), runK ctx N is a K = .ok K' → ∀ (m : Nat) (i : Ins8), is[m]? = some i → (K' (a + m)).come = true →
    ∃ n j, behindB ctx i (K' (a + m)) = .ok n j ∧ (n.come = true → a + m + 1 < N ∧ ∀ set reg, n.has set reg → (K' (a + m + 1)).has set reg) ∧ (j.come = true → a + m + 1 + i.off.toNat < N ∧ ∀ set reg, j.has set reg → (K' (a + m + 1 + i.off.toNat)).has set reg)
  | [], a, K, K', h, m, i, hm, _ => by simp at hm
  | x :: is, a, K, K', h, m, i, hm, hc => by
    unfold runK at h
    split at h
    · cases h
    rename_i K1 h1
    cases m with
    | succ m =>
      have := runK_sound is (a + 1) K1 K' h m i (by simpa using hm) (by rw [show a + 1 + m = a + (m + 1) by omega]; exact hc)
      rwa [show a + 1 + m = a + (m + 1) by omega] at this
    | zero =>
      simp only [List.getElem?_cons_zero, Option.some.injEq] at hm
      subst hm
      obtain ⟨a1, a2⟩ := stepK_keep h1
      obtain ⟨b1, b2⟩ := runK_keep is (a + 1) K1 K' h
      have e : K' a = K a := by rw [b1 a (by omega), a1 a (Nat.le_refl _)]
      simp only [Nat.add_zero] at hc ⊢
      rw [e] at hc ⊢
      unfold stepK at h1
      rw [hc] at h1
      simp only [Bool.true_eq_false, if_false] at h1
      split at h1
      · cases h1
      rename_i n j hb
      split at h1
      · cases h1
      rename_i hcond
      cases h1
      refine ⟨n, j, hb, fun hn => ⟨Nat.lt_of_not_le fun e => hcond (.inl ⟨hn, e⟩), fun set reg hh => b2 _ _ _ (putK_has (putK_new hh))⟩, fun hj => ?_⟩
      have := jump_come hb hj
      have h9 : ¬ N ≤ a + 1 + x.off.toNat := fun e => hcond (.inr ⟨this, e⟩)
      exact ⟨by omega, fun set reg hh => b2 _ _ _ (putK_new hh)⟩
theorem runK_right {ctx N : Nat} : ∀ (is : List Ins8) (a : Nat) (K K' : Nat → Kn), (∀ i, i ∈ is → i.imm ≤ 4294967295) → runK ctx N is a K = .ok K' → (∀ b, (K b).right) → ∀ b, (K' b).right
  | [], a, K, K', _, h, hr, b => by unfold runK at h; cases h; exact hr b
  | x :: is, a, K, K', hi, h, hr, b => by
    unfold runK at h
    split at h
    · cases h
    rename_i K1 h1
    exact runK_right is (a + 1) K1 K' (fun i hm => hi i (List.mem_cons_of_mem _ hm)) h (stepK_right (hi x (List.mem_cons_self ..)) h1 hr) b
theorem K0_right (b : Nat) : (K0 b).right := by
  unfold K0
  split
  · exact fun n => kn0_right n
  · exact kn0_right

end Go.Proofs.Ytjlddhnjbjhmkaa
