/- Layer 6, the document's answer: what is behind, case by case (plain). -/
import Derived.Test.YtjlddhnjbjhmkaaRb3
import Derived.Test.YtjlddhnjbjhmkaaRm4
import Derived.BigQuiet
set_option linter.unusedVariables false
set_option linter.unusedSimpArgs false
namespace Go.Proofs.Ytjlddhnjbjhmkaa
open Go.RowKit

def wayBV (b : Bh) : Value := match b with
  | .ok n j => .agg (wayL n j 0).toArray
  | .no why => .agg (wayL kn0 kn0 (why : Int)).toArray
def needB (op : Nat) : Bool := decide (3 ≤ op) && decide (op ≤ 22) && !(op == 16) && !(op == 17) && !(op == 19)
def unsB (i : Ins8) (k : Kn) : Bool := (needB i.op && !(k.r i.dst).s) || (uS i.op && !(k.r i.src).s) || (i.op == 24 && !(k.r 0).s)
def srefS (i : Ins8) (k : Kn) : Sp := if uI i.op then ⟨i.imm, i.imm⟩ else (k.r i.src).sp
def divB (i : Ins8) (s : Sp) : Bool := (i.op == 14 || i.op == 15) && s.l == 0
theorem ops24 {op : Nat} (h1 : 1 ≤ op) (h2 : op ≤ 24) : op = 1 ∨ op = 2 ∨ op = 3 ∨ op = 4 ∨ op = 5 ∨ op = 6 ∨ op = 7 ∨ op = 8 ∨ op = 9 ∨ op = 10 ∨ op = 11 ∨ op = 12 ∨ op = 13 ∨ op = 14 ∨ op = 15 ∨ op = 16 ∨ op = 17 ∨ op = 18 ∨ op = 19 ∨ op = 20 ∨ op = 21 ∨ op = 22 ∨ op = 23 ∨ op = 24 := by omega
theorem sref_is {i : Ins8} {k : Kn} (h1 : 1 ≤ i.op) (h2 : i.op ≤ 24) (h : i.op ≠ 23) : srefS i k = i.srcS k := by
  obtain ⟨op, dst, src, off, imm⟩ := i
  unfold srefS Ins8.srcS
  have e : uI op = Ins8.useImm ⟨op, dst, src, off, imm⟩ := by
    have h1 : 1 ≤ op := h1
    have h2 : op ≤ 24 := h2
    have h : op ≠ 23 := h
    rcases ops24 h1 h2 with q | q | q | q | q | q | q | q | q | q | q | q | q | q | q | q | q | q | q | q | q | q | q | q <;> first | (subst q; rfl) | exact absurd q h
  rw [e]
theorem bB_not {ctx : Nat} {i : Ins8} {k : Kn} (h : k.come = false) : behindB ctx i k = .ok kn0 kn0 := by unfold behindB; rw [h]; rfl
theorem bB_unset {ctx : Nat} {i : Ins8} {k : Kn} (hc : k.come = true) (h1 : 1 ≤ i.op) (h2 : i.op ≤ 24) (h : unsB i k = true) : behindB ctx i k = .no 161 := by
  obtain ⟨op, dst, src, off, imm⟩ := i
  have h1 : 1 ≤ op := h1
  have h2 : op ≤ 24 := h2
  rcases ops24 h1 h2 with q | q | q | q | q | q | q | q | q | q | q | q | q | q | q | q | q | q | q | q | q | q | q | q <;> subst q <;>
    simp [behindB, hc, behindC, sumB, ldB, stsB, jeqB, jltB, unsB, needB, uS, Ins8.useImm] at h ⊢ <;>
    (cases e1 : (k.r dst).s <;> cases e2 : (k.r src).s <;> cases e3 : (k.r 0).s <;> simp_all)
theorem bB_div {ctx : Nat} {i : Ins8} {k : Kn} (hc : k.come = true) (hu : unsB i k = false) (hd : i.op = 14 ∨ i.op = 15) (hl : (i.srcS k).l = 0) : behindB ctx i k = .no 162 := by
  obtain ⟨op, dst, src, off, imm⟩ := i
  have hd : op = 14 ∨ op = 15 := hd
  rcases hd with q | q <;> subst q <;>
    simp [behindB, hc, behindC, sumB, unsB, needB, uS, Ins8.useImm, Ins8.srcS] at hu hl ⊢ <;>
    (cases e1 : (k.r dst).s <;> cases e2 : (k.r src).s <;> simp_all)
theorem bB_sum {ctx : Nat} {i : Ins8} {k : Kn} (hc : k.come = true) (hu : unsB i k = false) (h1 : 1 ≤ i.op) (h15 : i.op ≤ 15) (hd : ¬ ((i.op = 14 ∨ i.op = 15) ∧ (i.srcS k).l = 0)) : behindB ctx i k = .ok (k.put i.dst (mkS i.op (k.r i.dst).sp (i.srcS k))) kn0 := by
  have e : behindB ctx i k = sumB i k := by unfold behindB behindC; rw [if_pos hc, if_pos h15]
  have em : mkS i.op (if i.op ≤ 2 then ⟨0, 0⟩ else (k.r i.dst).sp) (i.srcS k) = mkS i.op (k.r i.dst).sp (i.srcS k) := by
    by_cases h : i.op ≤ 2
    · unfold mkS; rw [if_pos h, if_pos h]
    · rw [if_neg h]
  have e1 : ¬ (3 ≤ i.op ∧ (k.r i.dst).s = false) := by
    rintro ⟨a, b⟩
    have hn : needB i.op = true := by
      unfold needB
      simp only [Bool.and_eq_true, decide_eq_true_eq, Bool.not_eq_true', beq_eq_false_iff_ne]
      omega
    simp [unsB, hn, b] at hu
  have e2 : ¬ (i.useImm = false ∧ (k.r i.src).s = false) := by
    rintro ⟨a, b⟩
    have hn : uS i.op = true := by
      obtain ⟨op, dst, src, off, imm⟩ := i
      have h1 : 1 ≤ op := h1
      have h15 : op ≤ 15 := h15
      rcases ops24 h1 (by omega) with q | q | q | q | q | q | q | q | q | q | q | q | q | q | q | q | q | q | q | q | q | q | q | q <;> (subst q; first | rfl | (exact absurd h15 (by decide)) | (simp [Ins8.useImm] at a))
    simp [unsB, hn, b] at hu
  rw [e]
  unfold sumB
  rw [if_neg e1, if_neg e2, if_neg hd, em]
theorem bB_ld {ctx size : Nat} {i : Ins8} {k : Kn} (hc : k.come = true) (hu : unsB i k = false) (ho : i.op = 16 ∧ size = ctx ∨ i.op = 17 ∧ size = 64) : behindB ctx i k = if 0 ≤ ((k.r i.src).l : Int) + i.off ∧ ((k.r i.src).g : Int) + i.off < size then .ok (k.put i.dst ⟨0, 255⟩) kn0 else .no 163 := by
  obtain ⟨op, dst, src, off, imm⟩ := i
  rcases ho with ⟨q, rfl⟩ | ⟨q, rfl⟩ <;> (have q : op = _ := q) <;> subst q <;>
    simp [behindB, hc, behindC, ldB, unsB, needB, uS] at hu ⊢ <;>
    (cases e2 : (k.r src).s <;> simp_all)
theorem bB_st {ctx : Nat} {i : Ins8} {k : Kn} (hc : k.come = true) (hu : unsB i k = false) (ho : i.op = 18) : behindB ctx i k = if 0 ≤ ((k.r i.dst).l : Int) + i.off ∧ ((k.r i.dst).g : Int) + i.off < 64 then .ok k kn0 else .no 163 := by
  obtain ⟨op, dst, src, off, imm⟩ := i
  have q : op = 18 := ho
  subst q
  simp [behindB, hc, behindC, stsB, unsB, needB, uS] at hu ⊢
  cases e1 : (k.r dst).s <;> cases e2 : (k.r src).s <;> simp_all
theorem bB_ja {ctx : Nat} {i : Ins8} {k : Kn} (hc : k.come = true) (ho : i.op = 19) : behindB ctx i k = .ok kn0 k := by
  unfold behindB behindC; rw [if_pos hc, ho]; rfl
theorem bB_call {ctx : Nat} {i : Ins8} {k : Kn} (hc : k.come = true) (ho : i.op = 23) : behindB ctx i k = .ok (callK k) kn0 := by
  unfold behindB behindC; rw [if_pos hc, ho]; rfl
theorem bB_exit {ctx : Nat} {i : Ins8} {k : Kn} (hc : k.come = true) (hu : unsB i k = false) (ho : i.op = 24) : behindB ctx i k = .ok kn0 kn0 := by
  obtain ⟨op, dst, src, off, imm⟩ := i
  have q : op = 24 := ho
  subst q
  simp [behindB, hc, behindC, unsB, needB, uS] at hu ⊢
  cases e1 : (k.r 0).s <;> simp_all
theorem bB_jump {ctx : Nat} {i : Ins8} {k : Kn} (hc : k.come = true) (hu : unsB i k = false) (ho : i.op = 20 ∨ i.op = 21 ∨ i.op = 22) : behindB ctx i k = .ok (if i.op = 20 then jeqN i k else if i.op = 22 ∧ i.dst = i.src then k else jltN i k (k.r i.dst).sp (i.srcS k)) (if i.op = 20 then jeqJ i k else if i.op = 22 ∧ i.dst = i.src then kn0 else jltJ i k (k.r i.dst).sp (i.srcS k)) := by
  obtain ⟨op, dst, src, off, imm⟩ := i
  have ho : op = 20 ∨ op = 21 ∨ op = 22 := ho
  rcases ho with q | q | q <;> subst q <;>
    simp [behindB, hc, behindC, jeqB, jltB, unsB, needB, uS] at hu ⊢ <;>
    (cases e1 : (k.r dst).s <;> cases e2 : (k.r src).s <;> simp_all)
  by_cases e : dst = src
  · simp [e]
  · simp [e]
end Go.Proofs.Ytjlddhnjbjhmkaa
