/- The document's run: any step. -/
import Derived.Test.YtpnkbpjhbmacaaaRs1
import Derived.Test.YtpnkbpjhbmacaaaRs2
import Derived.Test.YtpnkbpjhbmacaaaRs3
import Derived.Test.YtpnkbpjhbmacaaaRs4
set_option linter.unusedVariables false
set_option linter.unusedSimpArgs false
namespace Go.Proofs.Ytpnkbpjhbmacaaa
open Go.RowKit

def stepV (pr : List Ins8) (cx : List UInt8) (ans : List Nat) (s : Vm) : Vm × Bool :=
  match stepRes pr cx ans s with
  | .stop why => (s.mark.fall why, true)
  | .go s' more fin => (s'.next more, fin)
theorem stepV_go {pr : List Ins8} {cx : List UInt8} {ans : List Nat} {s s1 : Vm} {more : Int} {fin : Bool} (h : stepRes pr cx ans s = .go s1 more fin) : stepV pr cx ans s = (s1.next more, fin) := by
  unfold stepV; rw [h]
theorem stepV_stop {pr : List Ins8} {cx : List UInt8} {ans : List Nat} {s : Vm} {why : Nat} (h : stepRes pr cx ans s = .stop why) : stepV pr cx ans s = (s.mark.fall why, true) := by
  unfold stepV; rw [h]

theorem stepr_ok {w : World} {okc : Nat → Prop} {KA : Option Addr} {kc : Nat} {s : Vm} {IA : Option Addr} {ic : Nat} {pr : List Ins8} {CA : Option Addr} {cc : Nat} {cx : List UInt8} {A : Option Addr} {ca : Nat} {ans : List Nat} (ctx : Int) (H : StepIn w okc KA kc s IA ic pr CA cc cx A ca ans)
    (hpm : ∀ i, i ∈ pr → i.May) (h31 : ∀ i, i ∈ pr → i.op = 12 ∨ i.op = 13 → i.imm ≤ 31) :
    Calls Try.prog 26 #[.agg #[.int .i64 ctx, .slice IA pr.length ic], .slice CA cx.length cc, .slice A ans.length ca, .agg (stL (.slice KA s.calls.length kc) s false).toArray] w (StepPost w okc (stepV pr cx ans s).1 (stepV pr cx ans s).2) := by
  rcases hi : pr[s.at_]? with _ | i
  · have hr : stepRes pr cx ans s = .stop 1 := by unfold stepRes; rw [hi]
    rw [stepV_stop hr]
    exact stepr_out ctx H (List.getElem?_eq_none_iff.1 hi)
  have hm := hpm i (List.mem_of_getElem? hi)
  have hs := h31 i (List.mem_of_getElem? hi)
  have hr : stepRes pr cx ans s = doesRes s.mark i cx ans := by unfold stepRes; rw [hi]
  have hgo : ∀ s1 more fin, doesRes s.mark i cx ans = .go s1 more fin → stepV pr cx ans s = (s1.next more, fin) := fun s1 more fin h => stepV_go (hr.trans h)
  have hst : ∀ why, doesRes s.mark i cx ans = .stop why → stepV pr cx ans s = (s.mark.fall why, true) := fun why h => stepV_stop (hr.trans h)
  have hset : s.mark.set = s.set := rfl
  have hreg : s.mark.reg = s.reg := rfl
  have hscr : s.mark.scr = s.scr := rfl
  have h1 := hm.op1
  have h2 := hm.op2
  by_cases h15 : i.op ≤ 15
  · have hd : doesRes s.mark i cx ans = sumRes s.mark i := by unfold doesRes; rw [if_pos h15]
    have huI : i.useImm = true ↔ (i.op = 1 ∨ i.op = 3 ∨ i.op = 6 ∨ i.op = 8 ∨ i.op = 12 ∨ i.op = 13) := by
      simp only [Ins8.useImm, Bool.or_eq_true, beq_iff_eq]; omega
    by_cases hdst : 3 ≤ i.op ∧ s.set i.dst = false
    · have e : doesRes s.mark i cx ans = .stop 2 := by rw [hd]; unfold sumRes; simp only [hset, hreg, hscr]; rw [if_pos hdst]
      rw [hst _ e]
      by_cases hI : i.useImm = true
      · exact stepr_u1 ctx H i hi hm (by have := huI.1 hI; omega) hdst.2
      · exact stepr_u2 ctx H i hi hm (by have := mt huI.2 hI; omega) hdst.2
    by_cases hI : i.useImm = true
    · have n1 : ¬ (i.useImm = false ∧ s.set i.src = false) := by rw [hI]; simp
      have n2 : ¬ ((i.op = 14 ∨ i.op = 15) ∧ (if i.useImm then i.imm else s.reg i.src) = 0) := by have := huI.1 hI; omega
      have e : doesRes s.mark i cx ans = .go (s.mark.put i.dst (op2 i.op (if i.op ≤ 2 then 0 else s.reg i.dst) i.imm)) 0 false := by
        rw [hd]; unfold sumRes; simp only [hset, hreg, hscr]; rw [if_neg hdst, if_neg n1, if_neg n2, hI]; try rfl
      rw [hgo _ _ _ e]
      by_cases ho : i.op = 1
      · have e2 : op2 i.op (if i.op ≤ 2 then 0 else s.reg i.dst) i.imm = op2 i.op (s.reg i.dst) i.imm := by rw [ho]; try rfl
        rw [e2]
        exact stepr_sum_a ctx H i hi hm ho
      · have := huI.1 hI
        rw [if_neg (by omega)]
        exact stepr_sum_c ctx H i hi hm (by omega) (by cases h : s.set i.dst with | true => rfl | false => exact absurd ⟨by omega, h⟩ hdst) hs
    · have hIf : i.useImm = false := by simpa using hI
      have hno := mt huI.2 hI
      by_cases hss : s.set i.src = false
      · have e : doesRes s.mark i cx ans = .stop 2 := by rw [hd]; unfold sumRes; simp only [hset, hreg, hscr]; rw [if_neg hdst, if_pos ⟨hIf, hss⟩]
        rw [hst _ e]
        by_cases ho : i.op = 2
        · exact stepr_u4 ctx H i hi hm ho hss
        · exact stepr_u3 ctx H i hi hm (by omega) (by cases h : s.set i.dst with | true => rfl | false => exact absurd ⟨by omega, h⟩ hdst) hss
      have hss' : s.set i.src = true := by simpa using hss
      have n1 : ¬ (i.useImm = false ∧ s.set i.src = false) := fun h => hss h.2
      by_cases hz : (i.op = 14 ∨ i.op = 15) ∧ s.reg i.src = 0
      · have e : doesRes s.mark i cx ans = .stop 3 := by rw [hd]; unfold sumRes; simp only [hset, hreg, hscr]; rw [if_neg hdst, if_neg n1, if_pos ⟨hz.1, by rw [hIf]; exact hz.2⟩]
        rw [hst _ e]
        have hsd : s.set i.dst = true := by
          cases h : s.set i.dst with
          | true => rfl
          | false => exact absurd ⟨by omega, h⟩ hdst
        rcases hz.1 with ho | ho
        · exact stepr_d14 ctx H i hi hm ho hsd hss' hz.2
        · exact stepr_d15 ctx H i hi hm ho hsd hss' hz.2
      have n2 : ¬ ((i.op = 14 ∨ i.op = 15) ∧ (if i.useImm then i.imm else s.reg i.src) = 0) := by rw [hIf]; exact hz
      have e : doesRes s.mark i cx ans = .go (s.mark.put i.dst (op2 i.op (if i.op ≤ 2 then 0 else s.reg i.dst) (s.reg i.src))) 0 false := by
        rw [hd]; unfold sumRes; simp only [hset, hreg, hscr]; rw [if_neg hdst, if_neg n1, if_neg n2, hIf]; try rfl
      rw [hgo _ _ _ e]
      by_cases ho : i.op = 2
      · have e2 : op2 i.op (if i.op ≤ 2 then 0 else s.reg i.dst) (s.reg i.src) = op2 i.op (s.reg i.dst) (s.reg i.src) := by rw [ho]; try rfl
        rw [e2]
        exact stepr_sum_b ctx H i hi hm ho hss'
      · rw [if_neg (by omega)]
        have hsd : s.set i.dst = true := by
          cases h : s.set i.dst with
          | true => rfl
          | false => exact absurd ⟨by omega, h⟩ hdst
        by_cases h14 : i.op = 14
        · exact stepr_sum_e ctx H i hi hm h14 hsd hss' (fun h => hz ⟨.inl h14, h⟩)
        by_cases h15' : i.op = 15
        · exact stepr_sum_f ctx H i hi hm h15' hsd hss' (fun h => hz ⟨.inr h15', h⟩)
        exact stepr_sum_d ctx H i hi hm (by omega) hsd hss'
  by_cases h16 : i.op = 16
  · have hd : doesRes s.mark i cx ans = ldcRes s.mark i cx := by unfold doesRes; rw [if_neg (by omega), if_pos h16]
    cases hss : s.set i.src with
    | false =>
      have e : doesRes s.mark i cx ans = .stop 2 := by rw [hd]; unfold ldcRes; simp only [hset, hreg, hscr]; rw [if_neg (by show ¬ s.set i.src = true; rw [hss]; simp)]
      rw [hst _ e]; exact stepr_u5 ctx H i hi hm h16 hss
    | true =>
      by_cases hp : 0 ≤ (s.reg i.src : Int) + i.off ∧ (s.reg i.src : Int) + i.off < cx.length
      · have e : doesRes s.mark i cx ans = .go (s.mark.put i.dst (cx.getD ((s.reg i.src : Int) + i.off).toNat 0).toNat) 0 false := by rw [hd]; unfold ldcRes; simp only [hset, hreg, hscr]; rw [if_pos hss, if_pos hp]; try rfl
        rw [hgo _ _ _ e]; exact stepr_ldc ctx H i hi hm h16 hss hp.1 hp.2
      · have e : doesRes s.mark i cx ans = .stop 4 := by rw [hd]; unfold ldcRes; simp only [hset, hreg, hscr]; rw [if_pos hss, if_neg hp]
        rw [hst _ e]
        by_cases hn : (s.reg i.src : Int) + i.off < 0
        · exact stepr_b16n ctx H i hi hm h16 hss hn
        · exact stepr_b16p ctx H i hi hm h16 hss (by omega) (by omega)
  by_cases h17 : i.op = 17
  · have hd : doesRes s.mark i cx ans = ldsRes s.mark i := by unfold doesRes; rw [if_neg (by omega), if_neg (by omega), if_pos h17]
    cases hss : s.set i.src with
    | false =>
      have e : doesRes s.mark i cx ans = .stop 2 := by rw [hd]; unfold ldsRes; simp only [hset, hreg, hscr]; rw [if_neg (by show ¬ s.set i.src = true; rw [hss]; simp)]
      rw [hst _ e]; exact stepr_u6 ctx H i hi hm h17 hss
    | true =>
      by_cases hp : 0 ≤ (s.reg i.src : Int) + i.off ∧ (s.reg i.src : Int) + i.off < 64
      · have e : doesRes s.mark i cx ans = .go (s.mark.put i.dst (s.scr ((s.reg i.src : Int) + i.off).toNat)) 0 false := by rw [hd]; unfold ldsRes; simp only [hset, hreg, hscr]; rw [if_pos hss, if_pos hp]; try rfl
        rw [hgo _ _ _ e]; exact stepr_lds ctx H i hi hm h17 hss hp.1 hp.2
      · have e : doesRes s.mark i cx ans = .stop 4 := by rw [hd]; unfold ldsRes; simp only [hset, hreg, hscr]; rw [if_pos hss, if_neg hp]
        rw [hst _ e]
        by_cases hn : (s.reg i.src : Int) + i.off < 0
        · exact stepr_b17n ctx H i hi hm h17 hss hn
        · exact stepr_b17p ctx H i hi hm h17 hss (by omega) (by omega)
  by_cases h18 : i.op = 18
  · have hd : doesRes s.mark i cx ans = stsRes s.mark i := by unfold doesRes; rw [if_neg (by omega), if_neg (by omega), if_neg (by omega), if_pos h18]
    cases hsd : s.set i.dst with
    | false =>
      have e : doesRes s.mark i cx ans = .stop 2 := by rw [hd]; unfold stsRes; simp only [hset, hreg, hscr]; rw [if_neg (by show ¬ s.set i.dst = true; rw [hsd]; simp)]
      rw [hst _ e]; exact stepr_u7 ctx H i hi hm h18 hsd
    | true =>
      cases hss : s.set i.src with
      | false =>
        have e : doesRes s.mark i cx ans = .stop 2 := by rw [hd]; unfold stsRes; simp only [hset, hreg, hscr]; rw [if_pos hsd, if_neg (by show ¬ s.set i.src = true; rw [hss]; simp)]
        rw [hst _ e]; exact stepr_u8 ctx H i hi hm h18 hsd hss
      | true =>
        by_cases hp : 0 ≤ (s.reg i.dst : Int) + i.off ∧ (s.reg i.dst : Int) + i.off < 64
        · have e : doesRes s.mark i cx ans = .go (s.mark.poke ((s.reg i.dst : Int) + i.off).toNat (s.reg i.src % 256)) 0 false := by rw [hd]; unfold stsRes; simp only [hset, hreg, hscr]; rw [if_pos hsd, if_pos hss, if_pos hp]; try rfl
          rw [hgo _ _ _ e]; exact stepr_sts ctx H i hi hm h18 hsd hss hp.1 hp.2
        · have e : doesRes s.mark i cx ans = .stop 4 := by rw [hd]; unfold stsRes; simp only [hset, hreg, hscr]; rw [if_pos hsd, if_pos hss, if_neg hp]
          rw [hst _ e]
          by_cases hn : (s.reg i.dst : Int) + i.off < 0
          · exact stepr_b18n ctx H i hi hm h18 hsd hss hn
          · exact stepr_b18p ctx H i hi hm h18 hsd hss (by omega) (by omega)
  by_cases h19 : i.op = 19
  · have e : doesRes s.mark i cx ans = .go s.mark i.off false := by unfold doesRes; rw [if_neg (by omega), if_neg (by omega), if_neg (by omega), if_neg (by omega), if_pos h19]
    rw [hgo _ _ _ e]; exact stepr_ja ctx H i hi hm h19
  by_cases h20 : i.op = 20
  · have hd : doesRes s.mark i cx ans = jeqRes s.mark i := by unfold doesRes; rw [if_neg (by omega), if_neg (by omega), if_neg (by omega), if_neg (by omega), if_neg (by omega), if_pos h20]
    cases hsd : s.set i.dst with
    | false =>
      have e : doesRes s.mark i cx ans = .stop 2 := by rw [hd]; unfold jeqRes; simp only [hset, hreg, hscr]; rw [if_neg (by show ¬ s.set i.dst = true; rw [hsd]; simp)]
      rw [hst _ e]; exact stepr_u9 ctx H i hi hm h20 hsd
    | true =>
      by_cases hq : s.reg i.dst = i.imm
      · have e : doesRes s.mark i cx ans = .go s.mark i.off false := by rw [hd]; unfold jeqRes; simp only [hset, hreg, hscr]; rw [if_pos hsd, if_pos hq]
        rw [hgo _ _ _ e]; exact stepr_jeq_y ctx H i hi hm h20 hsd hq
      · have e : doesRes s.mark i cx ans = .go s.mark 0 false := by rw [hd]; unfold jeqRes; simp only [hset, hreg, hscr]; rw [if_pos hsd, if_neg hq]
        rw [hgo _ _ _ e]; exact stepr_jeq_n ctx H i hi hm h20 hsd hq
  by_cases h22 : i.op ≤ 22
  · have hd : doesRes s.mark i cx ans = jltRes s.mark i := by unfold doesRes; rw [if_neg (by omega), if_neg (by omega), if_neg (by omega), if_neg (by omega), if_neg (by omega), if_neg (by omega), if_pos h22]
    by_cases h21 : i.op = 21
    · have hI : i.useImm = true := by simp [Ins8.useImm, h21]
      cases hsd : s.set i.dst with
      | false =>
        have e : doesRes s.mark i cx ans = .stop 2 := by rw [hd]; unfold jltRes; simp only [hset, hreg, hscr]; rw [if_neg (by show ¬ s.set i.dst = true; rw [hsd]; simp)]
        rw [hst _ e]; exact stepr_u10 ctx H i hi hm h21 hsd
      | true =>
        by_cases hq : s.reg i.dst < i.imm
        · have e : doesRes s.mark i cx ans = .go s.mark i.off false := by rw [hd]; unfold jltRes; simp only [hset, hreg, hscr]; rw [if_pos hsd, if_pos hI, if_pos hq]
          rw [hgo _ _ _ e]; exact stepr_jlti_y ctx H i hi hm h21 hsd hq
        · have e : doesRes s.mark i cx ans = .go s.mark 0 false := by rw [hd]; unfold jltRes; simp only [hset, hreg, hscr]; rw [if_pos hsd, if_pos hI, if_neg hq]
          rw [hgo _ _ _ e]; exact stepr_jlti_n ctx H i hi hm h21 hsd hq
    · have h22' : i.op = 22 := by omega
      have hI : ¬ i.useImm = true := by simp [Ins8.useImm, h22']
      cases hsd : s.set i.dst with
      | false =>
        have e : doesRes s.mark i cx ans = .stop 2 := by rw [hd]; unfold jltRes; simp only [hset, hreg, hscr]; rw [if_neg (by show ¬ s.set i.dst = true; rw [hsd]; simp)]
        rw [hst _ e]; exact stepr_u11 ctx H i hi hm h22' hsd
      | true =>
        cases hss : s.set i.src with
        | false =>
          have e : doesRes s.mark i cx ans = .stop 2 := by rw [hd]; unfold jltRes; simp only [hset, hreg, hscr]; rw [if_pos hsd, if_neg hI, if_neg (by show ¬ s.set i.src = true; rw [hss]; simp)]
          rw [hst _ e]; exact stepr_u12 ctx H i hi hm h22' hsd hss
        | true =>
          by_cases hq : s.reg i.dst < s.reg i.src
          · have e : doesRes s.mark i cx ans = .go s.mark i.off false := by rw [hd]; unfold jltRes; simp only [hset, hreg, hscr]; rw [if_pos hsd, if_neg hI, if_pos hss, if_pos hq]
            rw [hgo _ _ _ e]; exact stepr_jlt_y ctx H i hi hm h22' hsd hss hq
          · have e : doesRes s.mark i cx ans = .go s.mark 0 false := by rw [hd]; unfold jltRes; simp only [hset, hreg, hscr]; rw [if_pos hsd, if_neg hI, if_pos hss, if_neg hq]
            rw [hgo _ _ _ e]; exact stepr_jlt_n ctx H i hi hm h22' hsd hss hq
  by_cases h23 : i.op = 23
  · have e : doesRes s.mark i cx ans = .go (s.mark.call i.imm ans) 0 false := by unfold doesRes; rw [if_neg (by omega), if_neg (by omega), if_neg (by omega), if_neg (by omega), if_neg (by omega), if_neg (by omega), if_neg (by omega), if_pos h23]
    rw [hgo _ _ _ e]; exact stepr_call ctx H i hi hm h23
  · have h24 : i.op = 24 := by omega
    have hd : doesRes s.mark i cx ans = exitRes s.mark := by unfold doesRes; rw [if_neg (by omega), if_neg (by omega), if_neg (by omega), if_neg (by omega), if_neg (by omega), if_neg (by omega), if_neg (by omega), if_neg (by omega)]
    cases hs0 : s.set 0 with
    | false =>
      have e : doesRes s.mark i cx ans = .stop 2 := by rw [hd]; unfold exitRes; simp only [hset, hreg, hscr]; rw [if_neg (by show ¬ s.set 0 = true; rw [hs0]; simp)]
      rw [hst _ e]; exact stepr_u13 ctx H i hi hm h24 hs0
    | true =>
      have e : doesRes s.mark i cx ans = .go (s.mark.tell (s.reg 0)) 0 true := by rw [hd]; unfold exitRes; simp only [hset, hreg, hscr]; rw [if_pos hs0]; try rfl
      rw [hgo _ _ _ e]; exact stepr_exit ctx H i hi hm h24 hs0
end Go.Proofs.Ytpnkbpjhbmacaaa
