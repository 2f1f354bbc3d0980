/- What a call of the law's helper act leaves, with its answer in a box of its own. -/
import Derived.Test.YtmajfiljajbipaaPlayed08
import Derived.Test.YtmajfiljajbipaaRef6
import Derived.Deep.CutRange
set_option linter.unusedVariables false
set_option linter.unusedSimpArgs false
namespace Go.Proofs.Ytmajfiljajbipaa
open Go.RowKit

theorem BothR.kp {R : Nat → Prop} {w w1 : World} {S T M : Nat → Prop} {p : Nat} {v : Value} {d : Dk} (h : BothR R w S T p v d) (hk : Kp M w w1) (hS : ∀ k, S k → ¬ M k) (hT : ∀ k, T k → ¬ M k) (hR : ∀ k, R k → ¬ M k := by exact noR) : BothR R w1 S T p v d :=
  { dsk := h.dsk.move hk hS hR, tl := fun k ht => Nat.lt_of_lt_of_le (h.tl k ht) hk.size, ref := RefV.kpA h.ref hk (fun k _ ht => hT k ht), ap := h.ap, now := h.now }
theorem BothR.below {R : Nat → Prop} {w w1 : World} {S T : Nat → Prop} {p : Nat} {v : Value} {d : Dk} (h : BothR R w S T p v d) (hb : Below w.heap.size w w1) : BothR R w1 S T p v d := h.kp (Kp.of_below hb No) (fun _ _ h => h) (fun _ _ h => h) (fun _ _ h => h)

/-- What a call of act leaves, with its answer in a box of its own. -/
def ActPost (wr : World) (U V : Nat → Prop) (q : Nat) (d : Dk) (s16 s17 : Value) (wx : World) : Prop :=
  ∃ (U' V' : Nat → Prop) (LA : Option Addr) (lc : Nat) (WA : Option Addr) (wc : Nat) (B : Nat), s16 = .pointer (some ⟨B, 0, none⟩) ∧ s17 = .bool true ∧ Both wx U' V' q (rv LA d.lasts.length lc WA d.waits.length wc d.steps d.armed) d ∧ Kp U wr wx ∧
    (∀ k, U' k → U k ∨ wr.heap.size ≤ k) ∧ (∀ k, V' k → V k ∨ wr.heap.size ≤ k) ∧ Box4 wx B (.slice LA d.lasts.length lc) (.slice WA d.waits.length wc) (.int .i64 d.steps) (.int .i64 d.armed) ∧ wr.heap.size ≤ B
theorem actPost_alloc {wr w5 : World} {U V U5 V5 : Nat → Prop} {q : Nat} {d : Dk} {LA WA : Option Addr} {lc wc : Nat} (hbo : Both w5 U5 V5 q (rv LA d.lasts.length lc WA d.waits.length wc d.steps d.armed) d) (hk : Kp U wr w5) (hU : ∀ k, U5 k → U k ∨ wr.heap.size ≤ k) (hV : ∀ k, V5 k → V k ∨ wr.heap.size ≤ k) :
    ActPost wr U V q d (.pointer (some ⟨w5.heap.size, 0, none⟩)) (.bool true) (w5.alloc (.cells #[.slice LA d.lasts.length lc, .slice WA d.waits.length wc, .int .i64 d.steps, .int .i64 d.armed] 48)) :=
  ⟨U5, V5, LA, lc, WA, wc, w5.heap.size, rfl, rfl, hbo.below ((Below.refl _ _).alloc (Nat.le_refl _) _), hk.alloc _, hU, hV, Box4.new _ _ _ _ _, hk.size⟩
theorem actPost_store {wr w5 : World} {U V U5 V5 : Nat → Prop} {q B : Nat} {d : Dk} {LA WA : Option Addr} {lc wc : Nat} {a b c e : Value} (hbo : Both w5 U5 V5 q (rv LA d.lasts.length lc WA d.waits.length wc d.steps d.armed) d) (hk : Kp U wr w5) (hU : ∀ k, U5 k → U k ∨ B < k) (hV : ∀ k, V5 k → V k ∨ B < k)
    (hB : wr.heap.size ≤ B) (hUB : ¬ U B) (hVB : ¬ V B) (hb4 : Box4 w5 B a b c e) :
    ActPost wr U V q d (.pointer (some ⟨B, 0, none⟩)) (.bool true) ((((w5.setCell ⟨B, 0, none⟩ (.slice LA d.lasts.length lc)).setCell ⟨B, 1, none⟩ (.slice WA d.waits.length wc)).setCell ⟨B, 2, none⟩ (.int .i64 d.steps)).setCell ⟨B, 3, none⟩ (.int .i64 d.armed)) := by
  have hkF := (((((Kp.refl (fun b => b = B) w5).setCell (p := ⟨B, 0, none⟩) (.inl rfl) (.slice LA d.lasts.length lc)).setCell (p := ⟨B, 1, none⟩) (.inl rfl) (.slice WA d.waits.length wc)).setCell (p := ⟨B, 2, none⟩) (.inl rfl) (.int .i64 d.steps)).setCell (p := ⟨B, 3, none⟩) (.inl rfl) (.int .i64 d.armed))
  refine ⟨U5, V5, LA, lc, WA, wc, B, rfl, rfl, hbo.kp hkF (fun k h e => ?_) (fun k h e => ?_), ((((hk.setCell (.inr hB) _).setCell (.inr hB) _).setCell (.inr hB) _).setCell (.inr hB) _), fun k h => (hU k h).imp id (fun h => by omega), fun k h => (hV k h).imp id (fun h => by omega), hb4.put4 _ _ _ _, hB⟩
  · subst e; exact (hU _ h).elim hUB (Nat.lt_irrefl _)
  · subst e; exact (hV _ h).elim hVB (Nat.lt_irrefl _)

/-- A call of act in a world that only grew. -/
theorem act_from {R S T okb : Nat → Prop} {wr W : World} (hbW : Below wr.heap.size wr W) {p : Nat} {v : Value} {d : Dk} (h : BothR R wr S T p v d) (x : Act8) (B : Option Addr) (bc : Nat) (hby : By W okb B x.b.length bc x.b) (hm : d.waits.length ≤ 1048575) (hml : x.b.length ≤ 1048576) (hoS : ∀ k, okb k → ¬ S k) :
    Calls Try.prog 27 #[.pointer (some ⟨p, 0, none⟩), v, .agg #[.int .i64 x.what, .int .i64 x.at_, .int .i64 x.n, .slice B x.b.length bc]] W fun e w' =>
      ∃ S' T' LA lc WA wc, e = .returned (.tuple #[.agg #[.slice LA (d.act x).lasts.length lc, .slice WA (d.act x).waits.length wc, .int .i64 (d.act x).steps, .int .i64 (d.act x).armed], .bool true]) ∧ BothR R w' S' T' p (rv LA (d.act x).lasts.length lc WA (d.act x).waits.length wc (d.act x).steps (d.act x).armed) (d.act x) ∧
        Kp S wr w' ∧ Kp S W w' ∧ (∀ k, S' k → S k ∨ W.heap.size ≤ k) ∧ (∀ k, T' k → T k ∨ W.heap.size ≤ k) := by
  refine (act_any (okb := okb) W p v d (h.below hbW) x B bc hby hm hml (fun k h1 _ => hoS k h1)).mono ?_
  rintro e w5 ⟨U5, V5, v5, rfl, hbo5, hk5, hU5, hV5⟩
  obtain ⟨LA5, lc5, WA5, wc5, wcs5, rfl, _, _, _⟩ := id hbo5.ref
  exact ⟨U5, V5, LA5, lc5, WA5, wc5, rfl, hbo5, (Kp.of_below hbW S).trans hk5 (fun _ _ h => h), hk5, hU5, hV5⟩
end Go.Proofs.Ytmajfiljajbipaa
