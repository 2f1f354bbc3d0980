/- A region that draws its order, two effects of which may come up in either order. -/
import Derived.Test.YtpnkbpjhbmacaaaReg
set_option linter.unusedVariables false
namespace Go.Proofs.Ytpnkbpjhbmacaaa
open Go.RowKit

/-- The order that is walked: reads; an effect that nothing else may come ahead of; two effects, either of which may come first. -/
inductive Plan where
  | done : Plan
  | rd : Nat → Plan → Plan
  | eff : Nat → Plan → Plan
  | two : Nat → Plan → Nat → Plan → Plan
def Plan.len : Plan → Nat
  | .done => 0
  | .rd _ p => p.len + 1
  | .eff _ p => p.len + 1
  | .two _ p _ _ => p.len + 1

section
variable {P : Program} {ops : Array Oper} {md : Region.Mode} {Q : Exit → Act → World → Prop} {S : World → Prop} {keep : List Nat}

def wpPlan (P : Program) (ops : Array Oper) (Q : Exit → Act → World → Prop) (S : World → Prop) (keep : List Nat) : Plan → Act → World → Prop
  | .done, a, w => Q .normal a w
  | .rd k p, a, w => ∃ o v, ops[k]? = some o ∧ YieldsIf P ops S o v a ∧ wpPlan P ops Q S keep p (a.put o.dst v) w
  | .eff k p, a, w => wpOp P ops Q k (fun a' w' => (keep.contains k = true → S w') ∧ wpPlan P ops Q S keep p a' w') a w
  | .two k p k2 p2, a, w => wpOp P ops Q k (fun a' w' => (keep.contains k = true → S w') ∧ wpPlan P ops Q S keep p a' w') a w ∧
      wpOp P ops Q k2 (fun a' w' => (keep.contains k2 = true → S w') ∧ wpPlan P ops Q S keep p2 a' w') a w

def planB (md : Region.Mode) (ops : Array Oper) (keep : List Nat) : Plan → Bool → Array Bool → Bool
  | .done, _, listed => (Region.ready md ops listed).isEmpty
  | .rd k p, valid, listed => valid && (Region.ready md ops listed).contains k && Region.free md ops listed k && ((List.range ops.size).all fun j => listed.getD j true || j == k || keep.contains j || Region.waitsFor md ops j k) && planB md ops keep p valid (listed.setIfInBounds k true)
  | .eff k p, valid, listed => decide (Region.ready md ops listed = [k]) && planB md ops keep p (valid && keep.contains k) (listed.setIfInBounds k true)
  | .two k p k2 p2, valid, listed => decide (Region.ready md ops listed = [k, k2]) && decide (p.len = p2.len) && planB md ops keep p (valid && keep.contains k) (listed.setIfInBounds k true) && planB md ops keep p2 (valid && keep.contains k2) (listed.setIfInBounds k2 true)

theorem wpAnyK_plan (hsel : Region.noSelect ops = true) (hQ : ∀ c a d v w, Q (.panic c) (Act.put a d v) w → Q (.panic c) a w) :
    ∀ (p : Plan) (valid : Bool) (listed : Array Bool) (a : Act) (w : World), planB md ops keep p valid listed = true → (valid = true → S w) → wpPlan P ops Q S keep p a w → wpAnyK P md ops Q S keep p.len listed a w
  | .done, _, listed, a, w, hB, _, h => ⟨by simpa [planB] using hB, h⟩
  | .rd k p, valid, listed, a, w, hB, hS, h => by
    obtain ⟨o, v, h0, hy, h⟩ := h
    simp only [planB, Bool.and_eq_true] at hB
    obtain ⟨⟨⟨⟨hv, hr⟩, hf⟩, hk⟩, hB⟩ := hB
    refine wpAnyK_first h0 (Region.noSelect_spec hsel) (fun c a w hq => hQ c a _ _ w hq) _ listed a w (fun j oj hj hji hun hno => ⟨Region.free_spec h0 hf j oj hj hji hun hno, ?_⟩) (by simpa using hr) hy (hS hv) (wpAnyK_plan hsel hQ p valid _ _ w hB hS h)
    have hjs : j < ops.size := (Array.getElem?_eq_some_iff.1 hj).1
    have h3 := List.all_eq_true.1 hk j (List.mem_range.2 hjs)
    simp only [Bool.or_eq_true] at h3
    rcases h3 with ((h3 | h3) | h3) | h3
    · rw [hun] at h3; cases h3
    · simp at h3; exact absurd h3 hji
    · exact h3
    · obtain ⟨oj', hoj', e, he, hb, heq⟩ := Region.waitsFor_spec h3
      rw [hj] at hoj'
      injection hoj' with hoj'
      subst hoj'
      exact absurd heq (hno e he hb)
  | .eff k p, valid, listed, a, w, hB, hS, h => by
    simp only [planB, Bool.and_eq_true, decide_eq_true_eq] at hB
    refine ⟨fun h1 => (by rw [hB.1] at h1; cases h1), fun i hi => ?_⟩
    rw [hB.1] at hi
    have hik : i = k := by simpa using hi
    subst hik
    exact wpOp_mono (fun a' w' h' => ⟨h'.1, wpAnyK_plan hsel hQ p (valid && keep.contains i) _ a' w' hB.2 (fun hv => h'.1 (by simp at hv; simpa using hv.2)) h'.2⟩) h
  | .two k p k2 p2, valid, listed, a, w, hB, hS, h => by
    simp only [planB, Bool.and_eq_true, decide_eq_true_eq] at hB
    obtain ⟨⟨⟨hr, hlen⟩, hB1⟩, hB2⟩ := hB
    refine ⟨fun h1 => (by rw [hr] at h1; cases h1), fun i hi => ?_⟩
    rw [hr] at hi
    have hik : i = k ∨ i = k2 := by simpa using hi
    rcases hik with rfl | rfl
    · exact wpOp_mono (fun a' w' h' => ⟨h'.1, wpAnyK_plan hsel hQ p (valid && keep.contains i) _ a' w' hB1 (fun hv => h'.1 (by simp at hv; simpa using hv.2)) h'.2⟩) h.1
    · exact wpOp_mono (fun a' w' h' => ⟨h'.1, by rw [hlen]; exact wpAnyK_plan hsel hQ p2 (valid && keep.contains i) _ a' w' hB2 (fun hv => h'.1 (by simp at hv; simpa using hv.2)) h'.2⟩) h.2

theorem pl_done {a : Act} {w : World} (h : Q .normal a w) : wpPlan P ops Q S keep .done a w := h
theorem pl_pure {k : Nat} {p : Plan} {o : Oper} {a : Act} {w : World} (ho : ops[k]? = some o)
    (h : ∀ K : Act → Prop, (∀ a', wpPlan P ops Q S keep p a' w → K a') → if Region.wanted o (yielded ops a.tmps) then (∃ v, (∀ W, (execOp a.eval o).run P W = .ok (.value v) W) ∧ K (a.put o.dst v)) else K (a.put o.dst undef)) : wpPlan P ops Q S keep (.rd k p) a w := by
  have h' := h (fun a' => wpPlan P ops Q S keep p a' w) (fun _ h => h)
  by_cases hw : Region.wanted o (yielded ops a.tmps) = true
  · rw [if_pos hw] at h'
    obtain ⟨v, hv, h'⟩ := h'
    exact ⟨o, v, ho, .inl ⟨hw, fun W _ => hv W⟩, h'⟩
  · rw [if_neg hw] at h'
    exact ⟨o, undef, ho, .inr ⟨by simpa using hw, rfl⟩, h'⟩
theorem pl_rd {k : Nat} {p : Plan} {o : Oper} {a : Act} {w : World} (v : Value) (ho : ops[k]? = some o) (hg : Region.wanted o (yielded ops a.tmps) = true) (hv : ∀ W, S W → (execOp a.eval o).run P W = .ok (.value v) W) (h : ∀ K : Act → Prop, (∀ a', wpPlan P ops Q S keep p a' w → K a') → K (a.put o.dst v)) : wpPlan P ops Q S keep (.rd k p) a w :=
  ⟨o, v, ho, .inl ⟨hg, hv⟩, h _ (fun _ h => h)⟩
theorem pl_op {k : Nat} {p : Plan} {o : Oper} {a : Act} {w : World} (ho : ops[k]? = some o) (hg : Region.wanted o (yielded ops a.tmps) = true)
    (h : ∀ K : Act → World → Prop, (∀ a' w', (keep.contains k = true → S w') → wpPlan P ops Q S keep p a' w' → K a' w') → o.wp P a w K Q) : wpOp P ops Q k (fun a' w' => (keep.contains k = true → S w') ∧ wpPlan P ops Q S keep p a' w') a w := by
  unfold wpOp
  simp only [ho, if_pos hg]
  exact .inl (h _ (fun _ _ h1 h2 => ⟨h1, h2⟩))
theorem pl_two {k k2 : Nat} {p p2 : Plan} {a : Act} {w : World} (h1 : wpOp P ops Q k (fun a' w' => (keep.contains k = true → S w') ∧ wpPlan P ops Q S keep p a' w') a w)
    (h2 : wpOp P ops Q k2 (fun a' w' => (keep.contains k2 = true → S w') ∧ wpPlan P ops Q S keep p2 a' w') a w) : wpPlan P ops Q S keep (.two k p k2 p2) a w := ⟨h1, h2⟩
theorem pl_eff {k : Nat} {p : Plan} {o : Oper} {a : Act} {w : World} (ho : ops[k]? = some o) (hg : Region.wanted o (yielded ops a.tmps) = true)
    (h : ∀ K : Act → World → Prop, (∀ a' w', (keep.contains k = true → S w') → wpPlan P ops Q S keep p a' w' → K a' w') → o.wp P a w K Q) : wpPlan P ops Q S keep (.eff k p) a w := pl_op ho hg h

def plB (md : Region.Mode) (ops : Array Oper) (keep : List Nat) (p : Plan) : Bool := Region.noSelect ops && decide (p.len = ops.size) && planB md ops keep p true (Array.replicate ops.size false)
/-- The region by a plan. -/
theorem plan {id : Nat} {ops : Array Oper} {a : Act} {w : World} (p : Plan) (keep : List Nat) (S : World → Prop) (hm : P.follows .mixedOrders = true) (hB : plB .any ops keep p = true) (hQ : ∀ c a d v w, Q (.panic c) (Act.put a d v) w → Q (.panic c) a w)
    (hS : S w.drew) (h : wpPlan P ops Q S keep p a w.drew) : (Code.region id ops true).wp P Q a w := by
  simp only [plB, Bool.and_eq_true, decide_eq_true_eq] at hB
  obtain ⟨⟨hsel, hn⟩, hB⟩ := hB
  refine wp_region_any hm (wpAny_of_k (S := S) (keep := keep) _ _ _ _ ?_)
  have := wpAnyK_plan (P := P) (md := .any) (ops := ops) (Q := Q) (S := S) (keep := keep) hsel hQ p true (Array.replicate ops.size false) a w.drew hB (fun _ => hS) h
  rw [hn] at this
  exact this
end
end Go.Proofs.Ytpnkbpjhbmacaaa
