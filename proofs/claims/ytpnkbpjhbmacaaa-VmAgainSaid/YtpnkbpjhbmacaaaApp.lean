/- append onto a row of the call's own, its source any slice that is read. -/
import Derived.Test.YtpnkbpjhbmacaaaBase
import Derived.Deep.RegionLaw
import Derived.WalkSpells
import Derived.StillTailTactics
set_option linter.unusedVariables false
namespace Go.Proofs.Ytpnkbpjhbmacaaa
open Go.RowKit

section
variable {P : Program} (w : World)

theorem run_append_sl {ok : Nat → Prop} (base : Nat) (t ty e : TypeId) (z : Value) (size bytes : Nat) (ht : P.underlying t = some (.slice e)) (hinfo : (P.info? e).map (fun i => (i.zero, i.size, i.bytes)) = some (some z, size, bytes))
    (hzs : z.cells.size = size) (hsz : 0 < size) (hb0 : 0 < bytes)
    (v : Value) (n : Nat) (xs : List Value) (hown : w.ownsRow base e size v n xs) (A : Option Addr) (m c : Nat) (news : List Value) (hr : Sl w ok size A m c news) (h1 : ∀ u ∈ news, u.oneCell' = true)
    (hbytes : (n + m) * bytes ≤ 140737488355328) (hbase : base ≤ w.heap.size) :
    ∃ v' w', (Builtin.append_ #[t, t] ty #[v, .slice A m c]).run P w = .ok v' w' ∧ w'.ownsRow base e size v' (n + m) (xs ++ news) ∧ w.grownBy w' v.ownBlock ∧
      (v'.ownBlock = v.ownBlock ∨ v'.ownBlock = some w.heap.size) := by
  obtain ⟨i, hi, hzz⟩ := Option.map_eq_some_iff.1 hinfo
  simp only [Prod.mk.injEq] at hzz
  obtain ⟨hz0, hz1, hz2⟩ := hzz
  cases A with
  | none =>
    have hc := hr.2.2.2.1 rfl
    have hm : m = 0 := by have := hr.2.1; omega
    subst hm
    obtain rfl : news = [] := List.eq_nil_of_length_eq_zero (by simpa using hr.1)
    refine ⟨v, w, ?_, by simpa using hown, World.grownBy.refl w _, .inl rfl⟩
    rcases hown.2 with ⟨rfl, rfl⟩ | ⟨g, cap, cur, rfl, _, _, hnc, _⟩
    · simp [Builtin.append_, run_underlying ht, sizeOf, typeInfo, hi, Builtin.lenOf, Builtin.firstCells]
    · simp [Builtin.append_, run_underlying ht, sizeOf, typeInfo, hi, Builtin.lenOf, Builtin.firstCells, hnc, storeCells]
  | some ad =>
    have h63 : n + m ≤ maxLen := by
      have : n + m ≤ (n + m) * bytes := Nat.le_mul_of_pos_right _ hb0
      simp only [maxLen]; omega
    obtain ⟨v', w', hrun, h2, h3, _, h5⟩ := run_append_own_at (P := P) w base t ty e i z size bytes ht hi hz0 hz1 hz2 hzs hsz v n xs hown ad m c news hr.1 hr.cells h1 h63 hbytes hbase
    exact ⟨v', w', hrun, h2, h3, h5⟩

theorem wp_append_sl {o : Oper} {a : Act} {K : Act → World → Prop} {Q : Exit → Act → World → Prop} {ok : Nat → Prop} (s x : Operand) (t : TypeId)
    (ho : o.op = .call { callee := .builtin .append, args := #[s, x], argTypes := #[t, t] })
    (base : Nat) (e : TypeId) (z : Value) (size bytes : Nat) (ht : P.underlying t = some (.slice e)) (hinfo : (P.info? e).map (fun i => (i.zero, i.size, i.bytes)) = some (some z, size, bytes))
    (hzs : z.cells.size = size) (hsz : 0 < size) (hb0 : 0 < bytes)
    (v : Value) (n : Nat) (xs : List Value) (hs : a.eval s = v) (hown : w.ownsRow base e size v n xs) (A : Option Addr) (m c : Nat) (news : List Value) (hx : a.eval x = .slice A m c) (hr : Sl w ok size A m c news) (h1 : ∀ u ∈ news, u.oneCell' = true)
    (hbytes : (n + m) * bytes ≤ 140737488355328) (hbase : base ≤ w.heap.size)
    (h : ∀ v' w', w'.ownsRow base e size v' (n + m) (xs ++ news) → w.grownBy w' v.ownBlock → (v'.ownBlock = v.ownBlock ∨ v'.ownBlock = some w.heap.size) → K (a.put o.dst v') w') : o.wp P a w K Q := by
  obtain ⟨v', w', hrun, h2, h3, h4⟩ := run_append_sl (P := P) w base t o.type e z size bytes ht hinfo hzs hsz hb0 v n xs hown A m c news hr h1 hbytes hbase
  unfold Oper.wp execOp
  simp only [ho, resolve, invoke, builtin, Sem.run_bind, Sem.run_pure, Result.andThen_ok, List.map_toArray, List.map_cons, List.map_nil, hs, hx, hrun]
  exact h v' w' h2 h3 h4

theorem wpList_append_sl {ops : Array Oper} {rest : List Oper} {o : Oper} {a : Act} {Q : Exit → Act → World → Prop} {ok : Nat → Prop} (hgd : o.guard = none) (s x : Operand) (t : TypeId)
    (ho : o.op = .call { callee := .builtin .append, args := #[s, x], argTypes := #[t, t] })
    (base : Nat) (e : TypeId) (z : Value) (size bytes : Nat) (ht : P.underlying t = some (.slice e)) (hinfo : (P.info? e).map (fun i => (i.zero, i.size, i.bytes)) = some (some z, size, bytes))
    (hzs : z.cells.size = size) (hsz : 0 < size) (hb0 : 0 < bytes)
    (v : Value) (n : Nat) (xs : List Value) (hs : a.eval s = v) (hown : w.ownsRow base e size v n xs) (A : Option Addr) (m c : Nat) (news : List Value) (hx : a.eval x = .slice A m c) (hr : Sl w ok size A m c news) (h1 : ∀ u ∈ news, u.oneCell' = true)
    (hbytes : (n + m) * bytes ≤ 140737488355328) (hbase : base ≤ w.heap.size)
    (h : ∀ v' w', w'.ownsRow base e size v' (n + m) (xs ++ news) → w.grownBy w' v.ownBlock → (v'.ownBlock = v.ownBlock ∨ v'.ownBlock = some w.heap.size) → wpList P ops Q rest (a.put o.dst v') w') : wpList P ops Q (o :: rest) a w :=
  wpList_plain hgd fun _ hK => wp_append_sl w s x t ho base e z size bytes ht hinfo hzs hsz hb0 v n xs hs hown A m c news hx hr h1 hbytes hbase fun v' w' h2 h3 h4 => hK _ _ (h v' w' h2 h3 h4)

theorem step_append_sl {Y : Nat → Option Bool} {o : Oper} {a : Act} {K : Act → World → Prop} {Q : Exit → Act → World → Prop} {E : Prop} {ok : Nat → Prop} (hgd : o.guard = none) (s x : Operand) (t : TypeId)
    (ho : o.op = .call { callee := .builtin .append, args := #[s, x], argTypes := #[t, t] })
    (base : Nat) (e : TypeId) (z : Value) (size bytes : Nat) (ht : P.underlying t = some (.slice e)) (hinfo : (P.info? e).map (fun i => (i.zero, i.size, i.bytes)) = some (some z, size, bytes))
    (hzs : z.cells.size = size) (hsz : 0 < size) (hb0 : 0 < bytes)
    (v : Value) (n : Nat) (xs : List Value) (hs : a.eval s = v) (hown : w.ownsRow base e size v n xs) (A : Option Addr) (m c : Nat) (news : List Value) (hx : a.eval x = .slice A m c) (hr : Sl w ok size A m c news) (h1 : ∀ u ∈ news, u.oneCell' = true)
    (hbytes : (n + m) * bytes ≤ 140737488355328) (hbase : base ≤ w.heap.size)
    (h : ∀ v' w', w'.ownsRow base e size v' (n + m) (xs ++ news) → w.grownBy w' v.ownBlock → (v'.ownBlock = v.ownBlock ∨ v'.ownBlock = some w.heap.size) → K (a.put o.dst v') w') :
    if Region.wanted o Y = true then Oper.wp P o a w K Q else E := by
  have hw : Region.wanted o Y = true := by simp [Region.wanted, hgd]
  rw [if_pos hw]
  exact wp_append_sl w s x t ho base e z size bytes ht hinfo hzs hsz hb0 v n xs hs hown A m c news hx hr h1 hbytes hbase h
end

/-- A literal block: '[]T{..}', 'make' of a known size. -/
theorem own_lit (w : World) (e : TypeId) (sz : Nat) (cs : Array Value) (n : Nat) (hm : n ≤ maxLen) (hs : cs.size = n * sz) (base : Nat) (hb : base ≤ w.heap.size) :
    (w.alloc (.cells cs e)).ownsRow base e sz (.slice (some ⟨w.heap.size, 0, none⟩) n n) n cs.toList :=
  World.ownsRow_lit w cs n hb hm hs

theorem Sl.lit (w : World) (e : TypeId) (sz : Nat) (cs : Array Value) (n : Nat) (hm : n ≤ maxLen) (hs : cs.size = n * sz) : Sl (w.alloc (.cells cs e)) Any sz (some ⟨w.heap.size, 0, none⟩) n n cs.toList := by
  obtain ⟨A, c, he, h⟩ := Sl.of_own (ok := Any) (own_lit w e sz cs n hm hs 0 (Nat.zero_le _)) (fun _ _ _ => trivial)
  injection he with h1 h2 h3
  subst h1; subst h3
  exact h
theorem Sl.drew {w : World} {ok : Nat → Prop} {sz n c : Nat} {A : Option Addr} {xs : List Value} (h : Sl w ok sz A n c xs) : Sl w.drew ok sz A n c xs := h
theorem cell_al {w : World} {a : Addr} {v : Value} (h : w.cell? a = some v) (o : Obj) : (w.alloc o).cell? a = some v := (World.cell?_alloc_lt w o a (World.block_lt_of_cell? w a h)).trans h
theorem cell_al_drew {w : World} {a : Addr} {v : Value} (h : w.cell? a = some v) (o : Obj) : (w.alloc o).drew.cell? a = some v := cell_al h o
theorem own_shape {w : World} {base sz n : Nat} {e : TypeId} {v : Value} {xs : List Value} (h : w.ownsRow base e sz v n xs) : ∃ A c, v = .slice A n c := by
  obtain ⟨A, c, he, _⟩ := Sl.of_own (ok := Any) h (fun _ _ _ => trivial)
  exact ⟨A, c, he⟩
theorem own_pos {w : World} {base sz n : Nat} {e : TypeId} {v : Value} {xs : List Value} (h : w.ownsRow base e sz v n xs) (hn : 0 < n) : ∃ g cap, v = .slice (some ⟨g, 0, none⟩) n cap ∧ base ≤ g ∧ g < w.heap.size := by
  rcases h.2 with ⟨_, h0⟩ | ⟨g, cap, cur, he, hb, hg, _⟩
  · omega
  · exact ⟨g, cap, he, hb, (Array.getElem?_eq_some_iff.1 hg).1⟩
theorem own_move {w w1 : World} {base : Nat} {e : TypeId} {size n : Nat} {v : Value} {xs : List Value} (h : w.ownsRow base e size v n xs) (hm : ∀ k, v.ownBlock = some k → k < w.heap.size → w1.heap[k]? = w.heap[k]?) : w1.ownsRow base e size v n xs := by
  have hlt := h.lt
  obtain ⟨h1, h2⟩ := h
  refine ⟨h1, ?_⟩
  rcases h2 with h2 | ⟨g, cap, cur, rfl, hg, hh, r⟩
  · exact .inl h2
  · exact .inr ⟨g, cap, cur, rfl, hg, (hm g (by simp [Value.ownBlock]) (hlt g (by simp [Value.ownBlock])).2).trans hh, r⟩
theorem own_base {w : World} {base base' : Nat} {e : TypeId} {size n : Nat} {v : Value} {xs : List Value} (h : w.ownsRow base e size v n xs) (hb : base' ≤ base) : w.ownsRow base' e size v n xs := by
  obtain ⟨h1, h2⟩ := h
  refine ⟨h1, ?_⟩
  rcases h2 with h2 | ⟨g, cap, cur, rfl, hg, r⟩
  · exact .inl h2
  · exact .inr ⟨g, cap, cur, rfl, by omega, r⟩

/-! ### cuts of slices: the address of what is cut is a letter -/
theorem Sl.cut {w : World} {ok : Nat → Prop} {sz n c lo hi : Nat} {A : Option Addr} {xs : List Value} (h : Sl w ok sz A n c xs) (hl : lo ≤ hi) (hh : hi ≤ n) :
    Sl w ok sz (if c = lo then A else A.map (·.add (lo * sz))) (hi - lo) (c - lo) ((xs.take (hi * sz)).drop (lo * sz)) := by
  obtain ⟨h1, h2, h3, h4, h5⟩ := h
  refine ⟨?_, by omega, by omega, fun he => ?_, fun a ha hn => ?_⟩
  · rw [List.length_drop, List.length_take, h1, Nat.min_eq_left (Nat.mul_le_mul_right _ hh), Nat.sub_mul]
  · split at he
    · omega
    · cases A with
      | none => have := h4 rfl; omega
      | some a => cases he
  · split at ha
    · omega
    · cases A with
      | none => cases ha
      | some a0 =>
        simp only [Option.map_some, Option.some.injEq] at ha
        subst ha
        obtain ⟨k1, k2, k3⟩ := h5 a0 rfl (by omega)
        refine ⟨by rw [add_block]; exact k1, by rw [add_block]; exact k2, fun j u hu => ?_⟩
        rw [add_add]
        refine k3 _ u ?_
        rw [List.getElem?_drop, List.getElem?_take] at hu
        split at hu
        · exact hu
        · cases hu
section
variable {P : Program} (t e : TypeId) (sz : Nat) (ht : P.underlying t = some (.slice e)) (hsz : (P.info? e).map (·.size) = some sz)
include ht hsz
theorem cut_lh (kl kh : IntKind) (A : Option Addr) (n c lo hi : Nat) (hl : lo ≤ hi) (hh : hi ≤ c) :
    ∃ A', (∀ W : World, (Instr.slice t (.slice A n c) (some (.int kl (lo : Int))) (some (.int kh (hi : Int))) none).run P W = .ok (.slice A' (hi - lo) (c - lo)) W) ∧ (lo < c → A' = A.map (·.add (lo * sz))) ∧
      ∀ (w : World) (ok : Nat → Prop) (xs : List Value), hi ≤ n → Sl w ok sz A n c xs → Sl w ok sz A' (hi - lo) (c - lo) ((xs.take (hi * sz)).drop (lo * sz)) := by
  obtain ⟨i, hi', hs⟩ := Option.map_eq_some_iff.1 hsz
  refine ⟨if c = lo then A else A.map (·.add (lo * sz)), fun W => ?_, fun h => by rw [if_neg (by omega)], fun w ok xs h1 h2 => h2.cut hl h1⟩
  have hel : P.elem t = e := by simp [Program.elem, ht]
  have hu : P.underlying t = some (.slice (P.elem t)) := by rw [hel]; exact ht
  rw [run_slice_lh W t A n c hu kl kh (lo : Int) (hi : Int) (by omega) (by omega) (by omega), hel]
  simp [sizeOf, typeInfo, hi', hs, sliced, Result.andThen]
theorem cut_l (kl : IntKind) (A : Option Addr) (n c lo : Nat) (hl : lo ≤ n) :
    ∃ A', (∀ W : World, (Instr.slice t (.slice A n c) (some (.int kl (lo : Int))) none none).run P W = .ok (.slice A' (n - lo) (c - lo)) W) ∧ (lo < c → A' = A.map (·.add (lo * sz))) ∧
      ∀ (w : World) (ok : Nat → Prop) (xs : List Value), Sl w ok sz A n c xs → Sl w ok sz A' (n - lo) (c - lo) (xs.drop (lo * sz)) := by
  obtain ⟨i, hi', hs⟩ := Option.map_eq_some_iff.1 hsz
  refine ⟨if c = lo then A else A.map (·.add (lo * sz)), fun W => ?_, fun h => by rw [if_neg (by omega)], fun w ok xs h2 => ?_⟩
  · have hel : P.elem t = e := by simp [Program.elem, ht]
    have hu : P.underlying t = some (.slice (P.elem t)) := by rw [hel]; exact ht
    rw [run_slice_l W t A n c hu kl (lo : Int) (by omega) (by omega), hel]
    simp [sizeOf, typeInfo, hi', hs, sliced, Result.andThen]
  · have := h2.cut hl (Nat.le_refl n)
    rwa [List.take_of_length_le (by rw [h2.1]; exact Nat.le_refl _)] at this
theorem cut_h (kh : IntKind) (A : Option Addr) (n c hi : Nat) (hh : hi ≤ c) :
    (∀ W : World, (Instr.slice t (.slice A n c) none (some (.int kh (hi : Int))) none).run P W = .ok (.slice A hi c) W) ∧
      ∀ (w : World) (ok : Nat → Prop) (xs : List Value), hi ≤ n → Sl w ok sz A n c xs → Sl w ok sz A hi c (xs.take (hi * sz)) := by
  obtain ⟨i, hi', hs⟩ := Option.map_eq_some_iff.1 hsz
  have hA : A.map (fun x => x.add (0 * sz)) = A := by cases A <;> simp [Addr.add]
  refine ⟨fun W => ?_, fun w ok xs h1 h2 => ?_⟩
  · have hel : P.elem t = e := by simp [Program.elem, ht]
    have hu : P.underlying t = some (.slice (P.elem t)) := by rw [hel]; exact ht
    rw [run_slice_h W t A n c hu kh (hi : Int) (by omega) (by omega), hel]
    simp [sizeOf, typeInfo, hi', hs, sliced, Result.andThen, Addr.add]
  · have h3 := h2.cut (Nat.zero_le hi) h1
    simp only [Nat.zero_mul, List.drop_zero, Nat.sub_zero] at h3
    have e : (if c = 0 then A else A.map (fun x => x.add 0)) = A := by cases A <;> simp [Addr.add]
    rwa [e] at h3
end

/-! ### copy into a row that is owned -/
theorem get3 {α : Type} (A B C : List α) (a b j : Nat) (hA : A.length = a) (hB : B.length = b) : (A ++ (B ++ C))[j]? = if j < a then A[j]? else if j < a + b then B[j - a]? else C[j - a - b]? := by
  subst hA; subst hB
  split
  · rw [List.getElem?_append_left (by omega)]
  · rw [List.getElem?_append_right (by omega)]
    split
    · rw [List.getElem?_append_left (by omega)]
    · rw [List.getElem?_append_right (by omega)]
theorem splice_take {α : Type} (L : List α) (N off : Nat) (cs : List α) (h : off + cs.length ≤ N) (hN : N ≤ L.length) : (L.take off ++ cs ++ L.drop (off + cs.length)).take N = splice (L.take N) off cs := by
  unfold splice
  apply List.ext_getElem?
  intro j
  have h1 : (L.take off).length = off := by rw [List.length_take]; omega
  have h2 : ((L.take N).take off).length = off := by rw [List.length_take, List.length_take]; omega
  rw [get3 _ _ _ off cs.length j h2 rfl]
  by_cases hj : j < N
  · rw [List.getElem?_take_of_lt hj, List.append_assoc, get3 _ _ _ off cs.length j h1 rfl]
    split
    · rw [List.getElem?_take_of_lt (by omega), List.getElem?_take_of_lt (by omega), List.getElem?_take_of_lt (by omega)]
    · split
      · rfl
      · rw [List.getElem?_drop, List.getElem?_drop, List.getElem?_take_of_lt (by omega)]
  · rw [List.getElem?_take_eq_none (by omega), if_neg (by omega), if_neg (by omega), List.getElem?_eq_none]
    rw [List.length_drop, List.length_take]
    omega
theorem run_copy_in {P : Program} (w : World) {ok : Nat → Prop} (dT sT ty e : TypeId) (hu : P.underlying dT = some (.slice e)) (hsz : (P.info? e).map (·.size) = some 1)
    (base nb N nc off : Nat) (xs : List Value) (hown : w.ownsRow base e 1 (.slice (some ⟨nb, 0, none⟩) N nc) N xs) (D : Option Addr) (dl dc : Nat) (hD : 0 < dl → D = some ⟨nb, off, none⟩) (hfit : off + dl ≤ N)
    (S : Option Addr) (sl sc : Nat) (cs : List Value) (hr : Sl w ok 1 S sl sc cs) (h1 : ∀ u ∈ cs, u.oneCell' = true) (k : Nat) (hk : k = min sl dl) :
    ∃ w', (Builtin.copy_ #[dT, sT] ty #[.slice D dl dc, .slice S sl sc]).run P w = .ok (goInt k) w' ∧ w'.ownsRow base e 1 (.slice (some ⟨nb, 0, none⟩) N nc) N (splice xs off (cs.take k)) ∧ Kp (· = nb) w w' := by
  by_cases h0 : k = 0
  · subst h0
    refine ⟨w, run_copy_none w dT sT ty e D S dl dc sl sc hu hsz hk.symm, by simpa [splice] using hown, Kp.refl _ _⟩
  · obtain ⟨a, rfl, _, _, hcell⟩ := hr.at_ (j := 0) (by omega)
    have hD := hD (by omega)
    subst hD
    have hcl : cs.length = sl := by simpa using hr.1
    have hlen : (cs.take k).length = k := by rw [List.length_take, hcl]; omega
    rcases hown with ⟨hx, ⟨he, _⟩ | ⟨g, cap, cur, he, hb, hg, hn, hc, hs, ht⟩⟩
    · cases he
    · injection he with he1 he2 he3
      injection he1 with he1
      injection he1 with he1
      subst he1; subst he3
      have hrun := run_copy_row (P := P) w dT sT ty e nb off dl dc a sl sc cur e (cs.take k) hu hsz hg (by rw [hlen, hk])
        (fun j v hv => hcell j v (of_take hv)) (by rw [hlen, hs]; omega) (fun v hv => h1 v (List.mem_of_mem_take hv))
      rw [hlen] at hrun
      refine ⟨_, hrun, ⟨by rw [length_splice _ _ _ (by rw [hlen, hx]; omega)]; exact hx, .inr ⟨nb, nc, _, rfl, hb, setRow_heap w nb cur _ e _ hg, hn, hc, ?_, ?_⟩⟩, ?_⟩
      · simp only [List.size_toArray, List.length_append, List.length_take, List.length_drop, hcl, Array.length_toList, hs]
        omega
      · simp only [Nat.mul_one] at ht hs
        have e := splice_take cur.toList N off (cs.take k) (by rw [hlen]; omega) (by rw [Array.length_toList]; omega)
        rw [hlen, ht] at e
        simpa using e
      · exact ⟨rfl, rfl, rfl, by simp [World.setRow], fun b hb hn => setRow_other w nb b _ (fun e => hn (by rw [e]))⟩

theorem wpList_copy_in {P : Program} {w : World} {ops : Array Oper} {rest : List Oper} {o : Oper} {a : Act} {Q : Exit → Act → World → Prop} {ok : Nat → Prop} (hgd : o.guard = none) (d s : Operand) (dT sT : TypeId)
    (ho : o.op = .call { callee := .builtin .copy, args := #[d, s], argTypes := #[dT, sT] }) (e : TypeId) (hu : P.underlying dT = some (.slice e)) (hsz : (P.info? e).map (·.size) = some 1)
    (base nb N nc off : Nat) (xs : List Value) (hown : w.ownsRow base e 1 (.slice (some ⟨nb, 0, none⟩) N nc) N xs) (D : Option Addr) (dl dc : Nat) (hd : a.eval d = .slice D dl dc) (hD : 0 < dl → D = some ⟨nb, off, none⟩) (hfit : off + dl ≤ N)
    (S : Option Addr) (sl sc : Nat) (cs : List Value) (hs : a.eval s = .slice S sl sc) (hr : Sl w ok 1 S sl sc cs) (h1 : ∀ u ∈ cs, u.oneCell' = true) (k : Nat) (hk : k = min sl dl)
    (h : ∀ w', w'.ownsRow base e 1 (.slice (some ⟨nb, 0, none⟩) N nc) N (splice xs off (cs.take k)) → Kp (· = nb) w w' → wpList P ops Q rest (a.put o.dst (goInt k)) w') : wpList P ops Q (o :: rest) a w := by
  refine wpList_plain hgd fun K hK => ?_
  obtain ⟨w', hrun, h2, h3⟩ := run_copy_in (P := P) w dT sT o.type e hu hsz base nb N nc off xs hown D dl dc hD hfit S sl sc cs hr h1 k hk
  unfold Oper.wp
  simp [execOp, ho, resolve, invoke, builtin, hd, hs, hrun, Result.andThen]
  exact hK _ _ (h w' h2 h3)

/-- A region that draws its order: all but the last operation only read. -/
theorem still_tail {P : Program} {id : Nat} {Q : Exit → Act → World → Prop} {a : Act} {w : World} {l : List Oper} (n : Nat) (hm : P.follows .mixedOrders = true) (hB : Region.lexTailB .any l.toArray n = true)
    (h : wpStill P l.toArray w.drew (fun a' => wpList P l.toArray Q (l.drop n) a' w.drew) (l.take n) a) : (Code.region id l.toArray true).wp P Q a w := wp_region_still_tail n hm hB h

/-! ### the contracts of slices.Clone at bytes -/
theorem info_u8 : (Try.prog.info? 5).map (fun i => (i.zero, i.size, i.bytes)) = some (some (.int .u8 0), 1, 1) := by kernel_rfl
theorem size_u8 : (Try.prog.info? 5).map (·.size) = some 1 := by kernel_rfl
theorem cloneB {ok : Nat → Prop} (w : World) (A : Option Addr) (n c : Nat) (l : List UInt8) (h : By w ok A n c l) (hn : n ≤ 70368744177664) :
    Calls Try.prog 31 #[.slice A n c] w fun e w' => ∃ A' c', e = .returned (.slice A' n c') ∧ w'.ownsRow w.heap.size 5 1 (.slice A' n c') n (bv l) ∧ Below w.heap.size w w' := by
  have hnil := fun W => Lib.run_eql_slice_nil (P := Try.prog) W 25 5 A n c 0 0 Try.underlying25
  cases A with
  | none =>
    have hc := h.2.2.2.1 rfl
    have hm : n = 0 := by have := h.2.1; omega
    subst hm; subst hc
    have hl : bv l = [] := List.eq_nil_of_length_eq_zero (by simpa using h.1)
    have HL := Lib.hid hl; clear hl
    go_enter Try.func31, Try.ntmps31
    go_wp2
    go_ret
    exact ⟨none, 0, rfl, by rw [HL.out]; exact World.ownsRow_nil _ _ _ _, Below.refl _ _⟩
  | some a =>
    have h' := h.move (Mv.alloc ok w (.cells #[] 5))
    go_enter Try.func31, Try.ntmps31
    go_wp2_with (at_builtin; refine wpList_append_sl _ rfl (.tmp 5) (.tmp 6) _ rfl w.heap.size 5 _ 1 1 Try.underlying25 info_u8 rfl (by omega) (by omega) (.slice (some ⟨w.heap.size, 0, none⟩) 0 0) 0 [] rfl (own_lit w 5 1 #[] 0 (by simp [maxLen]) rfl _ (Nat.le_refl _)) (some a) n c (bv l) rfl h' (bv_one l) (by omega) (by simp) ?_; intro v1 w1 hown hg hat)
    go_ret
    obtain ⟨A', c', he⟩ := own_shape hown
    rw [Nat.zero_add] at he
    refine ⟨A', c', by rw [← he]; rfl, by rw [← he]; simpa using hown, ((Below.refl _ _).alloc (Nat.le_refl _) _).grown hg (by simp) (fun k hk => ?_)⟩
    simp [Value.ownBlock] at hk
    omega
end Go.Proofs.Ytpnkbpjhbmacaaa
