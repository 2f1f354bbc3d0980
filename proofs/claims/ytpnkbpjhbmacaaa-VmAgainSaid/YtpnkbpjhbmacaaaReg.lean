/- A region that draws its order: operations that read, in whatever order, beside a forced chain of operations that make or write memory; what is read must stay behind the first ones of the chain alone. -/
import Derived.Test.YtpnkbpjhbmacaaaApp
import Derived.OrdersHeld
import Derived.StillTail
import Derived.Deep.RegionHeld3
set_option linter.unusedVariables false
namespace Go.Proofs.Ytpnkbpjhbmacaaa
open Go.RowKit

section
variable {P : Program} {ops : Array Oper} {md : Region.Mode} {Q : Exit → Act → World → Prop} {S : World → Prop} {m : Nat}

def wpAnyM (P : Program) (md : Region.Mode) (ops : Array Oper) (Q : Exit → Act → World → Prop) (S : World → Prop) (m : Nat) : Nat → Array Bool → Act → World → Prop
  | 0, listed, a, w => Region.ready md ops listed = [] ∧ Q .normal a w
  | fuel + 1, listed, a, w =>
    (Region.ready md ops listed = [] → Q .normal a w) ∧
    ∀ i ∈ Region.ready md ops listed, wpOp P ops Q i (fun a' w' => (i < m → S w') ∧ wpAnyM P md ops Q S m fuel (listed.setIfInBounds i true) a' w') a w

theorem wpAny_of_m : ∀ (fuel : Nat) (listed : Array Bool) (a : Act) (w : World), wpAnyM P md ops Q S m fuel listed a w → wpAny P md ops Q fuel listed a w
  | 0, _, _, _, h => h
  | fuel + 1, _, _, _, h => ⟨h.1, fun i hi => wpOp_mono (fun a' w' h' => wpAny_of_m fuel _ a' w' h'.2) (h.2 i hi)⟩

theorem wpAnyM_first {i : Nat} {oi : Oper} {v : Value} (hi : ops[i]? = some oi) (him : i < m) (hsel : ∀ (j : Nat) (o : Oper) cs b, ops[j]? = some o → o.op ≠ .select cs b)
    (hQ : ∀ c a w, Q (.panic c) (a.put oi.dst v) w → Q (.panic c) a w) (hlate : ∀ j oj, ops[j]? = some oj → m ≤ j → ∃ e ∈ oj.after, Region.binds md e = true ∧ e.on = i) :
    ∀ (fuel : Nat) (listed : Array Bool) (a : Act) (w : World),
      (∀ j oj, ops[j]? = some oj → j ≠ i → listed.getD j true = false → (∀ e ∈ oj.after, Region.binds md e = true → e.on ≠ i) → oi.apart ops oj = true) →
      i ∈ Region.ready md ops listed → YieldsIf P ops S oi v a → S w →
      wpAnyM P md ops Q S m fuel (listed.setIfInBounds i true) (a.put oi.dst v) w → wpAnyM P md ops Q S m (fuel + 1) listed a w := by
  intro fuel
  induction fuel with
  | zero =>
    intro listed a w _ hr hy hS H
    refine ⟨fun h => (by rw [h] at hr; cases hr), fun j hj => ?_⟩
    by_cases hji : j = i
    · subst hji; exact hy.wpOp hi hS ⟨fun _ => hS, H⟩
    · have := ready_mono hj hji
      rw [H.1] at this
      cases this
  | succ fuel ih =>
    intro listed a w hfree hr hy hS H
    refine ⟨fun h => (by rw [h] at hr; cases hr), fun j hj => ?_⟩
    by_cases hji : j = i
    · subst hji; exact hy.wpOp hi hS ⟨fun _ => hS, H⟩
    · have h1 := H.2 j (ready_mono hj hji)
      obtain ⟨hjun, oj, hoj, hall⟩ := mem_ready.1 hj
      have hnot : ∀ e ∈ oj.after, Region.binds md e = true → e.on ≠ i := fun e he hb heq => by
        have h1 := hall e he hb
        have h0 := (mem_ready.1 hr).1
        rw [heq] at h1
        rcases Nat.lt_or_ge i listed.size with h' | h'
        · simp [h'] at h0 h1; rw [h0] at h1; cases h1
        · simp [Array.getElem?_eq_none h'] at h1
      have hjm : j < m := by
        rcases Nat.lt_or_ge j m with h | h
        · exact h
        · obtain ⟨e, he, hb, heq⟩ := hlate j oj hoj h
          exact absurd heq (hnot e he hb)
      have h2 := wpOp_putIf hoj (hfree j oj hoj hji hjun hnot) (fun cs b => hsel i oi cs b hi) (fun cs b => hsel j oj cs b hoj) hQ hy h1
      have hfree' : ∀ k ok, ops[k]? = some ok → k ≠ i → (listed.setIfInBounds j true).getD k true = false →
          (∀ e ∈ ok.after, Region.binds md e = true → e.on ≠ i) → oi.apart ops ok = true := fun k ok hk hki hun hno => by
        refine hfree k ok hk hki ?_ hno
        by_cases hjk : j = k
        · subst hjk; exact hjun
        · rw [getD_set_ne true hjk] at hun; exact hun
      refine wpOp_mono (fun a' w' h3 => ⟨fun _ => h3.2.1 hjm, ih (listed.setIfInBounds j true) a' w' hfree' (ready_mono hr (Ne.symm hji)) h3.1 (h3.2.1 hjm) ?_⟩) h2
      rw [Array.setIfInBounds_comm _ _ hji]
      exact h3.2.2

/-- The reads, in the order of the text. -/
def wpRd (P : Program) (ops : Array Oper) (S : World → Prop) (Qd : Act → Prop) : List Oper → Act → Prop
  | [], a => Qd a
  | o :: rest, a => ∃ v, YieldsIf P ops S o v a ∧ wpRd P ops S Qd rest (a.put o.dst v)
/-- The chain behind them. -/
def wpTail (P : Program) (ops : Array Oper) (Q : Exit → Act → World → Prop) (S : World → Prop) (m : Nat) : Nat → List Oper → Act → World → Prop
  | _, [], a, w => Q .normal a w
  | k, o :: rest, a, w => if Region.wanted o (yielded ops a.tmps) then o.wp P a w (fun a' w' => (k < m → S w') ∧ wpTail P ops Q S m (k + 1) rest a' w') Q ∨ (o.asks P a w ∧ LetsOut Q) else (k < m → S w) ∧ wpTail P ops Q S m (k + 1) rest (a.put o.dst undef) w

theorem rd_step {Qd : Act → Prop} {o : Oper} {rest : List Oper} {a : Act} (v : Value) (hg : o.guard = none) (hv : ∀ W, S W → (execOp a.eval o).run P W = .ok (.value v) W) (h : wpRd P ops S Qd rest (a.put o.dst v)) : wpRd P ops S Qd (o :: rest) a :=
  ⟨v, .inl ⟨by simp [Region.wanted, hg], hv⟩, h⟩
theorem rd_nil {Qd : Act → Prop} {a : Act} (h : Qd a) : wpRd P ops S Qd [] a := h
theorem tail_step {k : Nat} {o : Oper} {rest : List Oper} {a : Act} {w : World} (hg : o.guard = none)
    (h : ∀ K : Act → World → Prop, (∀ a' w', (k < m → S w') → wpTail P ops Q S m (k + 1) rest a' w' → K a' w') → o.wp P a w K Q) : wpTail P ops Q S m k (o :: rest) a w := by
  unfold wpTail
  rw [if_pos (by simp [Region.wanted, hg])]
  exact .inl (h _ (fun _ _ h1 h2 => ⟨h1, h2⟩))
theorem tail_late {k : Nat} : ∀ {rest : List Oper} {k : Nat} {a : Act} {w : World}, m ≤ k → wpList P ops Q rest a w → wpTail P ops Q S m k rest a w
  | [], _, _, _, _, h => h
  | o :: rest, k, a, w, hk, h => by
    unfold wpTail
    unfold wpList at h
    split
    · rename_i hw
      rw [if_pos hw] at h
      exact h.imp (fun h1 => Oper.wp_mono (fun a w h2 => ⟨fun h3 => by omega, tail_late (k := 0) (Nat.le_succ_of_le hk) h2⟩) h1) id
    · rename_i hw
      rw [if_neg hw] at h
      exact ⟨fun h3 => by omega, tail_late (k := 0) (Nat.le_succ_of_le hk) h⟩

def pre (sz k : Nat) : Array Bool := (Array.range sz).map (fun i => decide (i < k))
def lexM (md : Region.Mode) (ops : Array Oper) (m : Nat) : Nat → Nat → Array Bool → Bool
  | 0, k, listed => Region.seqB md ops (ops.size - k) k listed
  | f + 1, k, listed => decide (k < m) && (Region.ready md ops listed).contains k && Region.free md ops listed k && ((List.range ops.size).all fun j => decide (j < m) || Region.waitsFor md ops j k) && lexM md ops m f (k + 1) (listed.setIfInBounds k true)
def mixB (md : Region.Mode) (ops : Array Oper) (n m : Nat) : Bool := Region.noSelect ops && decide (n ≤ ops.size) && lexM md ops m n 0 (Array.replicate ops.size false)

theorem wpAnyM_of_seq : ∀ (l : List Oper) (k : Nat) (listed : Array Bool) (a : Act) (w : World), (∀ j, l[j]? = ops[k + j]?) →
    Region.seqB md ops l.length k listed = true → wpTail P ops Q S m k l a w → wpAnyM P md ops Q S m l.length listed a w
  | [], _, _, _, _, _, hB, h => ⟨by simpa [Region.seqB] using hB, h⟩
  | o :: l, k, listed, a, w, hl, hB, h => by
    have h0 : ops[k]? = some o := by simpa using (hl 0).symm
    simp only [List.length_cons, Region.seqB, Bool.and_eq_true, decide_eq_true_eq] at hB
    refine ⟨fun h1 => (by rw [hB.1] at h1; cases h1), fun i hi => ?_⟩
    rw [hB.1] at hi
    have hik : i = k := by simpa using hi
    subst hik
    have hw : wpOp P ops Q i (fun a' w' => (i < m → S w') ∧ wpTail P ops Q S m (i + 1) l a' w') a w := by unfold wpOp; simp only [h0]; exact h
    exact wpOp_mono (fun a' w' h' => ⟨h'.1, wpAnyM_of_seq l (i + 1) _ a' w' (fun j => by have := hl (j + 1); simpa [Nat.add_assoc, Nat.add_comm 1 j] using this) hB.2 h'.2⟩) hw

theorem wpAnyM_lex (hsel : Region.noSelect ops = true) (hQ : ∀ c a d v w, Q (.panic c) (Act.put a d v) w → Q (.panic c) a w) (tl : List Oper) :
    ∀ (l : List Oper) (k : Nat) (listed : Array Bool) (a : Act) (w : World), (∀ j, (l ++ tl)[j]? = ops[k + j]?) → k + (l.length + tl.length) = ops.size →
      lexM md ops m l.length k listed = true → S w → wpRd P ops S (fun a' => wpTail P ops Q S m (k + l.length) tl a' w) l a → wpAnyM P md ops Q S m (l.length + tl.length) listed a w
  | [], k, listed, a, w, hl, hz, hB, hS, h => by
    simp only [List.length_nil, Nat.zero_add, lexM] at hB hz ⊢
    have e : ops.size - k = tl.length := by omega
    rw [e] at hB
    exact wpAnyM_of_seq tl k listed a w (by simpa using hl) hB h
  | o :: l, k, listed, a, w, hl, hz, hB, hS, h => by
    have h0 : ops[k]? = some o := by simpa using (hl 0).symm
    simp only [List.length_cons, lexM, Bool.and_eq_true, decide_eq_true_eq] at hB
    obtain ⟨⟨⟨⟨hkm, hr⟩, hf⟩, hlate⟩, hB⟩ := hB
    obtain ⟨v, hy, h⟩ := h
    have e : (o :: l).length + tl.length = (l.length + tl.length) + 1 := by simp; omega
    rw [e]
    refine wpAnyM_first h0 hkm (Region.noSelect_spec hsel) (fun c a w hq => hQ c a _ _ w hq) (fun j oj hj hmj => ?_) _ listed a w (Region.free_spec h0 hf) (by simpa using hr) hy hS ?_
    · have hjs : j < ops.size := (Array.getElem?_eq_some_iff.1 hj).1
      have := List.all_eq_true.1 hlate j (List.mem_range.2 hjs)
      simp only [Bool.or_eq_true, decide_eq_true_eq] at this
      obtain ⟨oj', hoj', e, he, hb, heq⟩ := Region.waitsFor_spec (this.resolve_left (by omega))
      rw [hj] at hoj'
      injection hoj' with hoj'
      subst hoj'
      exact ⟨e, he, hb, heq⟩
    · refine wpAnyM_lex hsel hQ tl l (k + 1) _ _ w (fun j => by have := hl (j + 1); simpa [Nat.add_assoc, Nat.add_comm 1 j] using this) (by simp at hz; omega) hB hS ?_
      have e2 : k + 1 + l.length = k + (o :: l).length := by simp; omega
      rw [e2]
      exact h

/-- n operations that read; the rest a forced chain of which the first ones, up to number m, must leave S. -/
theorem mix_tail {id : Nat} {a : Act} {w : World} {l : List Oper} (n m : Nat) (S : World → Prop) (hm : P.follows .mixedOrders = true) (hB : mixB .any l.toArray n m = true) (hQ : ∀ c a d v w, Q (.panic c) (Act.put a d v) w → Q (.panic c) a w)
    (hS : S w.drew) (h : wpRd P l.toArray S (fun a' => wpTail P l.toArray Q S m n (l.drop n) a' w.drew) (l.take n) a) : (Code.region id l.toArray true).wp P Q a w := by
  simp only [mixB, Bool.and_eq_true, decide_eq_true_eq] at hB
  obtain ⟨⟨hsel, hn⟩, hB⟩ := hB
  have hn' : n ≤ l.length := by simpa using hn
  refine wp_region_any hm (wpAny_of_m (S := S) (m := m) _ _ _ _ ?_)
  have hlen : (l.take n).length = n := by rw [List.length_take]; omega
  have := wpAnyM_lex (P := P) (md := .any) (ops := l.toArray) (Q := Q) (S := S) (m := m) hsel hQ (l.drop n) (l.take n) 0 (Array.replicate l.toArray.size false) a w.drew
    (fun j => by rw [List.take_append_drop]; simp) (by rw [hlen]; simp; omega) (by rw [hlen]; exact hB) hS (by rw [hlen, Nat.zero_add]; exact h)
  have e : (l.take n).length + (l.drop n).length = l.toArray.size := by rw [hlen]; simp; omega
  rw [e] at this
  exact this
end

/-! ### the same in a chosen order: reads (and what only computes) wherever they may come up, effects where nothing else may -/
section
variable {P : Program} {ops : Array Oper} {md : Region.Mode} {Q : Exit → Act → World → Prop} {S : World → Prop} {keep : List Nat}

def wpAnyK (P : Program) (md : Region.Mode) (ops : Array Oper) (Q : Exit → Act → World → Prop) (S : World → Prop) (keep : List Nat) : Nat → Array Bool → Act → World → Prop
  | 0, listed, a, w => Region.ready md ops listed = [] ∧ Q .normal a w
  | fuel + 1, listed, a, w =>
    (Region.ready md ops listed = [] → Q .normal a w) ∧
    ∀ i ∈ Region.ready md ops listed, wpOp P ops Q i (fun a' w' => (keep.contains i = true → S w') ∧ wpAnyK P md ops Q S keep fuel (listed.setIfInBounds i true) a' w') a w

theorem wpAny_of_k : ∀ (fuel : Nat) (listed : Array Bool) (a : Act) (w : World), wpAnyK P md ops Q S keep fuel listed a w → wpAny P md ops Q fuel listed a w
  | 0, _, _, _, h => h
  | fuel + 1, _, _, _, h => ⟨h.1, fun i hi => wpOp_mono (fun a' w' h' => wpAny_of_k fuel _ a' w' h'.2) (h.2 i hi)⟩

theorem wpAnyK_first {i : Nat} {oi : Oper} {v : Value} (hi : ops[i]? = some oi) (hsel : ∀ (j : Nat) (o : Oper) cs b, ops[j]? = some o → o.op ≠ .select cs b)
    (hQ : ∀ c a w, Q (.panic c) (a.put oi.dst v) w → Q (.panic c) a w) :
    ∀ (fuel : Nat) (listed : Array Bool) (a : Act) (w : World),
      (∀ j oj, ops[j]? = some oj → j ≠ i → listed.getD j true = false → (∀ e ∈ oj.after, Region.binds md e = true → e.on ≠ i) → oi.apart ops oj = true ∧ keep.contains j = true) →
      i ∈ Region.ready md ops listed → YieldsIf P ops S oi v a → S w →
      wpAnyK P md ops Q S keep fuel (listed.setIfInBounds i true) (a.put oi.dst v) w → wpAnyK P md ops Q S keep (fuel + 1) listed a w := by
  intro fuel
  induction fuel with
  | zero =>
    intro listed a w _ hr hy hS H
    refine ⟨fun h => (by rw [h] at hr; cases hr), fun j hj => ?_⟩
    by_cases hji : j = i
    · subst hji; exact hy.wpOp hi hS ⟨fun _ => hS, H⟩
    · have := ready_mono hj hji
      rw [H.1] at this
      cases this
  | succ fuel ih =>
    intro listed a w hfree hr hy hS H
    refine ⟨fun h => (by rw [h] at hr; cases hr), fun j hj => ?_⟩
    by_cases hji : j = i
    · subst hji; exact hy.wpOp hi hS ⟨fun _ => hS, H⟩
    · have h1 := H.2 j (ready_mono hj hji)
      obtain ⟨hjun, oj, hoj, hall⟩ := mem_ready.1 hj
      have hnot : ∀ e ∈ oj.after, Region.binds md e = true → e.on ≠ i := fun e he hb heq => by
        have h1 := hall e he hb
        have h0 := (mem_ready.1 hr).1
        rw [heq] at h1
        rcases Nat.lt_or_ge i listed.size with h' | h'
        · simp [h'] at h0 h1; rw [h0] at h1; cases h1
        · simp [Array.getElem?_eq_none h'] at h1
      obtain ⟨hap, hjk⟩ := hfree j oj hoj hji hjun hnot
      have h2 := wpOp_putIf hoj hap (fun cs b => hsel i oi cs b hi) (fun cs b => hsel j oj cs b hoj) hQ hy h1
      have hfree' : ∀ k ok, ops[k]? = some ok → k ≠ i → (listed.setIfInBounds j true).getD k true = false →
          (∀ e ∈ ok.after, Region.binds md e = true → e.on ≠ i) → oi.apart ops ok = true ∧ keep.contains k = true := fun k ok hk hki hun hno => by
        refine hfree k ok hk hki ?_ hno
        by_cases hjk : j = k
        · subst hjk; exact hjun
        · rw [getD_set_ne true hjk] at hun; exact hun
      refine wpOp_mono (fun a' w' h3 => ⟨fun _ => h3.2.1 hjk, ih (listed.setIfInBounds j true) a' w' hfree' (ready_mono hr (Ne.symm hji)) h3.1 (h3.2.1 hjk) ?_⟩) h2
      rw [Array.setIfInBounds_comm _ _ hji]
      exact h3.2.2

/-- The steps, in the chosen order: (its number, whether it only reads). -/
def wpSteps (P : Program) (ops : Array Oper) (Q : Exit → Act → World → Prop) (S : World → Prop) (keep : List Nat) : List (Nat × Bool) → Act → World → Prop
  | [], a, w => Q .normal a w
  | (k, true) :: rest, a, w => ∃ o v, ops[k]? = some o ∧ YieldsIf P ops S o v a ∧ wpSteps P ops Q S keep rest (a.put o.dst v) w
  | (k, false) :: rest, a, w => wpOp P ops Q k (fun a' w' => (keep.contains k = true → S w') ∧ wpSteps P ops Q S keep rest a' w') a w

def stepsB (md : Region.Mode) (ops : Array Oper) (keep : List Nat) : List (Nat × Bool) → Bool → Array Bool → Bool
  | [], _, listed => (Region.ready md ops listed).isEmpty
  | (k, true) :: rest, valid, listed => valid && (Region.ready md ops listed).contains k && Region.free md ops listed k && ((List.range ops.size).all fun j => listed.getD j true || j == k || keep.contains j || Region.waitsFor md ops j k) && stepsB md ops keep rest valid (listed.setIfInBounds k true)
  | (k, false) :: rest, valid, listed => decide (Region.ready md ops listed = [k]) && stepsB md ops keep rest (valid && keep.contains k) (listed.setIfInBounds k true)

theorem wpAnyK_steps (hsel : Region.noSelect ops = true) (hQ : ∀ c a d v w, Q (.panic c) (Act.put a d v) w → Q (.panic c) a w) :
    ∀ (st : List (Nat × Bool)) (valid : Bool) (listed : Array Bool) (a : Act) (w : World), stepsB md ops keep st valid listed = true → (valid = true → S w) → wpSteps P ops Q S keep st a w → wpAnyK P md ops Q S keep st.length listed a w
  | [], _, listed, a, w, hB, _, h => ⟨by simpa [stepsB] using hB, h⟩
  | (k, true) :: rest, valid, listed, a, w, hB, hS, h => by
    obtain ⟨o, v, h0, hy, h⟩ := h
    simp only [stepsB, Bool.and_eq_true] at hB
    obtain ⟨⟨⟨⟨hv, hr⟩, hf⟩, hk⟩, hB⟩ := hB
    refine wpAnyK_first h0 (Region.noSelect_spec hsel) (fun c a w hq => hQ c a _ _ w hq) _ listed a w (fun j oj hj hji hun hno => ⟨Region.free_spec h0 hf j oj hj hji hun hno, ?_⟩) (by simpa using hr) hy (hS hv) (wpAnyK_steps hsel hQ rest valid _ _ w hB hS h)
    have hjs : j < ops.size := (Array.getElem?_eq_some_iff.1 hj).1
    have h3 := List.all_eq_true.1 hk j (List.mem_range.2 hjs)
    simp only [Bool.or_eq_true] at h3
    rcases h3 with ((h3 | h3) | h3) | h3
    · rw [hun] at h3; cases h3
    · simp at h3; exact absurd h3 hji
    · exact h3
    · obtain ⟨oj', hoj', e, he, hb, heq⟩ := Region.waitsFor_spec h3
      rw [hj] at hoj'
      injection hoj' with hoj'
      subst hoj'
      exact absurd heq (hno e he hb)
  | (k, false) :: rest, valid, listed, a, w, hB, hS, h => by
    simp only [stepsB, Bool.and_eq_true, decide_eq_true_eq] at hB
    refine ⟨fun h1 => (by rw [hB.1] at h1; cases h1), fun i hi => ?_⟩
    rw [hB.1] at hi
    have hik : i = k := by simpa using hi
    subst hik
    exact wpOp_mono (fun a' w' h' => ⟨h'.1, wpAnyK_steps hsel hQ rest (valid && keep.contains i) _ a' w' hB.2 (fun hv => h'.1 (by simp at hv; simpa using hv.2)) h'.2⟩) h

theorem st_nil {a : Act} {w : World} (h : Q .normal a w) : wpSteps P ops Q S keep [] a w := h
theorem st_rd {k : Nat} {rest : List (Nat × Bool)} {o : Oper} {a : Act} {w : World} (v : Value) (ho : ops[k]? = some o) (hg : o.guard = none) (hv : ∀ W, S W → (execOp a.eval o).run P W = .ok (.value v) W) (h : wpSteps P ops Q S keep rest (a.put o.dst v) w) : wpSteps P ops Q S keep ((k, true) :: rest) a w :=
  ⟨o, v, ho, .inl ⟨by simp [Region.wanted, hg], hv⟩, h⟩
theorem st_skip {k : Nat} {rest : List (Nat × Bool)} {o : Oper} {a : Act} {w : World} (ho : ops[k]? = some o) (hg : Region.wanted o (yielded ops a.tmps) = false) (h : wpSteps P ops Q S keep rest (a.put o.dst undef) w) : wpSteps P ops Q S keep ((k, true) :: rest) a w :=
  ⟨o, undef, ho, .inr ⟨hg, rfl⟩, h⟩
theorem st_eff {k : Nat} {rest : List (Nat × Bool)} {o : Oper} {a : Act} {w : World} (ho : ops[k]? = some o) (hg : o.guard = none)
    (h : ∀ K : Act → World → Prop, (∀ a' w', (keep.contains k = true → S w') → wpSteps P ops Q S keep rest a' w' → K a' w') → o.wp P a w K Q) : wpSteps P ops Q S keep ((k, false) :: rest) a w := by
  show wpOp P ops Q k _ a w
  unfold wpOp
  simp only [ho, if_pos (show Region.wanted o (yielded ops a.tmps) = true from by simp [Region.wanted, hg])]
  exact .inl (h _ (fun _ _ h1 h2 => ⟨h1, h2⟩))
theorem st_late (rest : List (Nat × Bool)) : ∀ {l : List Oper} {a : Act} {w : World}, (rest.all fun s => !s.2 && !keep.contains s.1) = true → rest.map (fun s => ops[s.1]?) = l.map some → wpList P ops Q l a w → wpSteps P ops Q S keep rest a w := by
  induction rest with
  | nil =>
    intro l a w _ hl h
    cases l with
    | nil => exact h
    | cons o l => simp at hl
  | cons s rest ih =>
    intro l a w hb hl h
    obtain ⟨k, b⟩ := s
    cases l with
    | nil => simp at hl
    | cons o l =>
      simp only [List.all_cons, Bool.and_eq_true, Bool.not_eq_true'] at hb
      simp only [List.map_cons, List.cons.injEq] at hl
      obtain ⟨⟨hb1, hk⟩, hb⟩ := hb
      subst hb1
      have hw : wpOp P ops Q k (wpList P ops Q l) a w := by unfold wpOp; simp only [hl.1]; exact h
      exact wpOp_mono (fun a w h2 => ⟨fun h3 => (by rw [hk] at h3; cases h3), ih hb hl.2 h2⟩) hw

def stB (md : Region.Mode) (ops : Array Oper) (keep : List Nat) (st : List (Nat × Bool)) : Bool := Region.noSelect ops && decide (st.length = ops.size) && stepsB md ops keep st true (Array.replicate ops.size false)

/-- A step whose value no world has a say in. -/
theorem st_pure {k : Nat} {rest : List (Nat × Bool)} {o : Oper} {a : Act} {w : World} (ho : ops[k]? = some o)
    (h : ∀ K : Act → Prop, (∀ a', wpSteps P ops Q S keep rest a' w → K a') → if Region.wanted o (yielded ops a.tmps) then (∃ v, (∀ W, (execOp a.eval o).run P W = .ok (.value v) W) ∧ K (a.put o.dst v)) else K (a.put o.dst undef)) : wpSteps P ops Q S keep ((k, true) :: rest) a w := by
  have h' := h (fun a' => wpSteps P ops Q S keep rest a' w) (fun _ h => h)
  by_cases hw : Region.wanted o (yielded ops a.tmps) = true
  · rw [if_pos hw] at h'
    obtain ⟨v, hv, h'⟩ := h'
    exact ⟨o, v, ho, .inl ⟨hw, fun W _ => hv W⟩, h'⟩
  · rw [if_neg hw] at h'
    exact ⟨o, undef, ho, .inr ⟨by simpa using hw, rfl⟩, h'⟩
theorem st_rdg {k : Nat} {rest : List (Nat × Bool)} {o : Oper} {a : Act} {w : World} (v : Value) (ho : ops[k]? = some o) (hg : Region.wanted o (yielded ops a.tmps) = true) (hv : ∀ W, S W → (execOp a.eval o).run P W = .ok (.value v) W) (h : ∀ K : Act → Prop, (∀ a', wpSteps P ops Q S keep rest a' w → K a') → K (a.put o.dst v)) : wpSteps P ops Q S keep ((k, true) :: rest) a w :=
  ⟨o, v, ho, .inl ⟨hg, hv⟩, h _ (fun _ h => h)⟩
theorem st_effg {k : Nat} {rest : List (Nat × Bool)} {o : Oper} {a : Act} {w : World} (ho : ops[k]? = some o) (hg : Region.wanted o (yielded ops a.tmps) = true)
    (h : ∀ K : Act → World → Prop, (∀ a' w', (keep.contains k = true → S w') → wpSteps P ops Q S keep rest a' w' → K a' w') → o.wp P a w K Q) : wpSteps P ops Q S keep ((k, false) :: rest) a w := by
  show wpOp P ops Q k _ a w
  unfold wpOp
  simp only [ho, if_pos hg]
  exact .inl (h _ (fun _ _ h1 h2 => ⟨h1, h2⟩))
/-- The region in a chosen order. -/
theorem mix {id : Nat} {ops : Array Oper} {a : Act} {w : World} (st : List (Nat × Bool)) (keep : List Nat) (S : World → Prop) (hm : P.follows .mixedOrders = true) (hB : stB .any ops keep st = true) (hQ : ∀ c a d v w, Q (.panic c) (Act.put a d v) w → Q (.panic c) a w)
    (hS : S w.drew) (h : wpSteps P ops Q S keep st a w.drew) : (Code.region id ops true).wp P Q a w := by
  simp only [stB, Bool.and_eq_true, decide_eq_true_eq] at hB
  obtain ⟨⟨hsel, hn⟩, hB⟩ := hB
  refine wp_region_any hm (wpAny_of_k (S := S) (keep := keep) _ _ _ _ ?_)
  have := wpAnyK_steps (P := P) (md := .any) (ops := ops) (Q := Q) (S := S) (keep := keep) hsel hQ st true (Array.replicate ops.size false) a w.drew hB (fun _ => hS) h
  rw [hn] at this
  exact this
end
end Go.Proofs.Ytpnkbpjhbmacaaa
