/- Disks that lie apart: a disk and the blocks that it depends on. -/
import Derived.Test.YtmajfiljajbipaaDsk6
set_option linter.unusedVariables false
namespace Go.Proofs.Ytmajfiljajbipaa
open Go.RowKit

theorem noR {M : Nat → Prop} : ∀ k, No k → ¬ M k := fun _ h => h.elim
/-- A disk: S, the blocks that it may turn or that are its own; R, blocks that it only reads and that others may read too. -/
def DiskR (R : Nat → Prop) (w : World) (S : Nat → Prop) (p : Nat) (d : Dk) : Prop :=
  (∀ k, S k → k < w.heap.size) ∧ ∃ fp, ((∀ k, fp k → S k) ∧ (∀ k, S k → ¬ R k) ∧ (∀ k, R k → k < w.heap.size)) ∧ Disk w fp (fun k => (S k ∧ ¬ fp k) ∨ R k) p d
/-- A disk, and the blocks S that it depends on. -/
abbrev DiskS (w : World) (S : Nat → Prop) (p : Nat) (d : Dk) : Prop := DiskR No w S p d
theorem DiskR.of {R : Nat → Prop} {w : World} {fp ok S : Nat → Prop} {p : Nat} {d : Dk} (h : Disk w fp ok p d) (hS : ∀ k, k < w.heap.size → fp k → S k) (ho : ∀ k, k < w.heap.size → ok k → S k ∨ R k) (hSR : ∀ k, S k → k < w.heap.size → ¬ R k) (hR : ∀ k, R k → k < w.heap.size) : DiskR R w (fun k => S k ∧ k < w.heap.size) p d := by
  have hfl : ∀ k, fp k → k < w.heap.size := by obtain ⟨nb, nc, LA, lc, WA, wc, wcs, h⟩ := h; exact h.fps
  have hdis : ∀ k, ok k → ¬ fp k := by obtain ⟨nb, nc, LA, lc, WA, wc, wcs, h⟩ := h; exact h.dis
  refine ⟨fun k hk => hk.2, fp, ⟨fun k hk => ⟨hS k (hfl k hk) hk, hfl k hk⟩, fun k hk => hSR k hk.1 hk.2, hR⟩, h.mono (fun k hk h1 => ?_) (fun k hk => ?_)⟩
  · rcases ho k hk h1 with h2 | h2
    · exact .inl ⟨⟨h2, hk⟩, hdis k h1⟩
    · exact .inr h2
  · rcases hk with hk | hk
    · exact hk.2
    · exact fun hf => hSR k (hS k (hfl k hf) hf) (hfl k hf) hk
theorem DiskS.of {w : World} {fp ok S : Nat → Prop} {p : Nat} {d : Dk} (h : Disk w fp ok p d) (hS : ∀ k, k < w.heap.size → fp k ∨ ok k → S k) : DiskS w (fun k => S k ∧ k < w.heap.size) p d :=
  DiskR.of h (fun k hk hf => hS k hk (.inl hf)) (fun k hk ho => .inl (hS k hk (.inr ho))) (fun _ _ _ h => h) (fun _ h => h.elim)
/-- A disk stays where what it depends on stays. -/
theorem DiskR.move {R : Nat → Prop} {w w1 : World} {S M : Nat → Prop} {p : Nat} {d : Dk} (h : DiskR R w S p d) (hk : Kp M w w1) (hM : ∀ k, S k → ¬ M k) (hR : ∀ k, R k → ¬ M k := by exact noR) : DiskR R w1 S p d := by
  obtain ⟨h1, fp, h2, h3⟩ := h
  refine ⟨fun k hS => Nat.lt_of_lt_of_le (h1 k hS) hk.size, fp, ⟨h2.1, h2.2.1, fun k hr => Nat.lt_of_lt_of_le (h2.2.2 k hr) hk.size⟩, h3.move ⟨hk.size, fun k hlt ho => hk.block k hlt ?_⟩⟩
  rcases ho with ho | ho | ho
  · exact hM k (h2.1 k ho)
  · exact hM k ho.1
  · exact hR k ho
theorem DiskR.below {R : Nat → Prop} {w w1 : World} {S : Nat → Prop} {p : Nat} {d : Dk} (h : DiskR R w S p d) (hb : Below w.heap.size w w1) : DiskR R w1 S p d := h.move (Kp.of_below hb No) (fun _ _ h => h) (fun _ _ h => h)
theorem DiskR.rl {R : Nat → Prop} {w : World} {S : Nat → Prop} {p : Nat} {d : Dk} (h : DiskR R w S p d) : ∀ k, R k → k < w.heap.size := by
  obtain ⟨_, fp, h2, _⟩ := h
  exact h2.2.2
/-- A disk turned into another one: nothing else is touched. -/
def ChgR (R : Nat → Prop) (w : World) (S : Nat → Prop) (p : Nat) (d : Dk) (w' : World) : Prop := ∃ S', DiskR R w' S' p d ∧ Kp S w w' ∧ ∀ k, S' k → S k ∨ w.heap.size ≤ k
abbrev Chg (w : World) (S : Nat → Prop) (p : Nat) (d : Dk) (w' : World) : Prop := ChgR No w S p d w'
theorem ChgR.same {R : Nat → Prop} {w w1 : World} {S : Nat → Prop} {p : Nat} {d : Dk} (h : DiskR R w S p d) (hb : Below w.heap.size w w1) : ChgR R w S p d w1 := ⟨S, h.below hb, Kp.of_below hb S, fun _ h => .inl h⟩
theorem DiskR.props {R : Nat → Prop} {w : World} {S : Nat → Prop} {p : Nat} {d : Dk} (h : DiskR R w S p d) : 0 < d.now.length ∧ d.now.length ≤ 1048576 ∧ d.lasts.length = d.now.length ∧ (∀ x, x ∈ d.waits → x.1 + x.2.length ≤ d.now.length) := by
  obtain ⟨_, fp, _, nb, nc, LA, lc, WA, wc, wcs, h⟩ := h
  exact ⟨h.pos, h.big, h.same, h.fits⟩
theorem ChgR.of {R : Nat → Prop} {w w' : World} {S fp fp' ok' : Nat → Prop} {p : Nat} {d : Dk} (hfS : ∀ k, fp k → S k) (hSR : ∀ k, S k → ¬ R k) (hRl : ∀ k, R k → k < w.heap.size) (hd : Disk w' fp' ok' p d) (hk : Kp fp w w') (hf : ∀ k, fp' k → fp k ∨ w.heap.size ≤ k)
    (ho : ∀ k, ok' k → S k ∨ R k ∨ w.heap.size ≤ k) : ChgR R w S p d w' := by
  refine ⟨_, DiskR.of (S := fun k => S k ∨ w.heap.size ≤ k) hd (fun k _ h => (hf k h).imp (hfS k) id) (fun k _ h => ?_) (fun k h _ => ?_) (fun k h => Nat.lt_of_lt_of_le (hRl k h) hk.size), hk.mono (fun k _ h => hfS k h), fun k h => h.1⟩
  · rcases ho k h with h | h | h
    · exact .inl (.inl h)
    · exact .inr h
    · exact .inl (.inr h)
  · rcases h with h | h
    · exact hSR k h
    · exact fun hr => by have := hRl k hr; omega

def Dk.wr (d : Dk) (x : Int) (b : List UInt8) : Dk × Int := if 0 ≤ x ∧ x ≤ d.now.length ∧ (b.length : Int) ≤ d.now.length - x then (if d.armed = 0 then (d, 180) else (d.write x.toNat b, 0)) else (d, 4)
def Dk.fl (d : Dk) : Dk × Int := if d.armed = 0 then (d, 180) else ({ d.tick with lasts := d.now, waits := [] }, 0)
def Dk.arm (d : Dk) (n : Int) : Dk := { d with armed := max n (-1) }

theorem ok3 {S R fp : Nat → Prop} {N k : Nat} {X : Prop} (h : (((S k ∧ ¬ fp k) ∨ R k) ∨ N ≤ k) ∧ X) : S k ∨ R k ∨ N ≤ k := by
  rcases h.1 with (h | h) | h
  · exact .inl h.1
  · exact .inr (.inl h)
  · exact .inr (.inr h)
theorem write_S {R : Nat → Prop} {w : World} {S : Nat → Prop} {p : Nat} {d : Dk} (h : DiskR R w S p d) (x : Int) (A : Option Addr) (n c : Nat) (b : List UInt8) {okb : Nat → Prop} (hby : By w okb A n c b) (hw : d.waits.length ≤ 1048576) :
    Calls Try.prog 15 #[.pointer (some ⟨p,0,none⟩), .int .i64 x, .slice A n c] w fun e w' => e = .returned (.int .i64 (d.wr x b).2) ∧ ChgR R w S p (d.wr x b).1 w' := by
  have hlen : b.length = n := by have := hby.1; simpa [bv] using this
  obtain ⟨hl, fp, hf, hd⟩ := h
  by_cases hx : 0 ≤ x ∧ x ≤ d.now.length ∧ (n : Int) ≤ d.now.length - x
  · obtain ⟨at_, rfl⟩ : ∃ at_ : Nat, x = at_ := ⟨x.toNat, by omega⟩
    refine (write_ok hd at_ A n c b hby (by omega) hw).mono ?_
    rintro e w' (⟨ha, rfl, hb⟩ | ⟨ha, rfl, fp', hd', hk, hf'⟩)
    · unfold Dk.wr
      rw [hlen, if_pos hx, if_pos ha]
      exact ⟨rfl, ChgR.same ⟨hl, fp, hf, hd⟩ hb⟩
    · unfold Dk.wr
      rw [hlen, if_pos hx, if_neg ha, Int.toNat_natCast]
      exact ⟨rfl, ChgR.of hf.1 hf.2.1 hf.2.2 hd' hk hf' (fun k h => ok3 h)⟩
  · refine (write_range hd x A n c hx).mono ?_
    rintro e w' ⟨rfl, hb⟩
    unfold Dk.wr
    rw [hlen, if_neg hx]
    exact ⟨rfl, ChgR.same ⟨hl, fp, hf, hd⟩ hb⟩
theorem flush_S {R : Nat → Prop} {w : World} {S : Nat → Prop} {p : Nat} {d : Dk} (h : DiskR R w S p d) :
    Calls Try.prog 16 #[.pointer (some ⟨p,0,none⟩)] w fun e w' => e = .returned (.int .i64 d.fl.2) ∧ ChgR R w S p d.fl.1 w' := by
  obtain ⟨hl, fp, hf, hd⟩ := h
  refine (flush_ok hd).mono ?_
  rintro e w' (⟨ha, rfl, hb⟩ | ⟨ha, rfl, fp', hd', hk, hf'⟩)
  · unfold Dk.fl
    rw [if_pos ha]
    exact ⟨rfl, ChgR.same ⟨hl, fp, hf, hd⟩ hb⟩
  · unfold Dk.fl
    rw [if_neg ha]
    exact ⟨rfl, ChgR.of hf.1 hf.2.1 hf.2.2 hd' hk hf' (fun k h => ok3 h)⟩
theorem arm_S {R : Nat → Prop} {w : World} {S : Nat → Prop} {p : Nat} {d : Dk} (h : DiskR R w S p d) (n : Int) :
    Calls Try.prog 14 #[.pointer (some ⟨p,0,none⟩), .int .i64 n] w fun e w' => e = .returned (.int .i64 0) ∧ ChgR R w S p (d.arm n) w' := by
  obtain ⟨hl, fp, hf, hd⟩ := h
  refine (arm_disk hd n).mono ?_
  rintro e w' ⟨rfl, hd', hk⟩
  exact ⟨rfl, ChgR.of hf.1 hf.2.1 hf.2.2 hd' hk (fun _ h => .inl h) (fun _ h => h.imp (fun h => h.1) (fun h => .inl h))⟩
/-- What a call makes that hands back a disk of its own. -/
def MadeS (w : World) (d : Dk) (e : Ending) (w' : World) : Prop := ∃ p S, e = .returned (.tuple #[.pointer (some ⟨p, 0, none⟩), .int .i64 0]) ∧ DiskS w' S p d ∧ (∀ k, S k → w.heap.size ≤ k) ∧ Below w.heap.size w w'
theorem MadeS.of {w w' : World} {d : Dk} {e : Ending} (h : Made w d e w') : MadeS w d e w' := by
  obtain ⟨p, fp, rfl, hd, hf, hb⟩ := h
  refine ⟨p, _, rfl, DiskS.of (S := fun k => w.heap.size ≤ k) hd (fun k _ h => ?_), fun k h => h.1, hb⟩
  rcases h with h | h
  · exact hf k h
  · exact h.1
theorem crash_S {R : Nat → Prop} {w : World} {S : Nat → Prop} {p : Nat} {d : Dk} (h : DiskR R w S p d) (keep torn : Int) (hw : d.waits.length ≤ 1048576) :
    Calls Try.prog 22 #[.pointer (some ⟨p, 0, none⟩), .agg #[.int .i64 keep, .int .i64 torn]] w (MadeS w (d.crash keep torn)) := by
  obtain ⟨hl, fp, hf, hd⟩ := h
  exact (crash_disk hd keep torn hw).mono (fun _ _ => MadeS.of)
theorem new_S (w : World) (n : Nat) (h1 : 1 ≤ n) (h2 : n ≤ 1048576) : Calls Try.prog 13 #[.int .i64 (n : Int)] w (MadeS w (Dk.of (List.replicate n 0))) := (new_ok w n h1 h2).mono (fun _ _ => MadeS.of)
theorem of_S {ok : Nat → Prop} (w : World) (A : Option Addr) (n c : Nat) (b : List UInt8) (h : By w ok A n c b) (h1 : 1 ≤ n) (h2 : n ≤ 1048576) : Calls Try.prog 28 #[.slice A n c] w (MadeS w (Dk.of b)) := (of_ok w A n c b h h1 h2).mono (fun _ _ => MadeS.of)
theorem chg_below {w0 w w' : World} {S : Nat → Prop} {N : Nat} (hb : Below N w0 w) (hk : Kp S w w') (hN : N ≤ w.heap.size) (hS : ∀ k, S k → N ≤ k) : Below N w0 w' :=
  hb.trans ⟨hk.os, hk.tape, hk.output, hk.size, fun k hlt => hk.block k (by omega) (fun h => by have := hS k h; omega)⟩
theorem apart_chg {w : World} {Sc S S' : Nat → Prop} (hc : ∀ k, Sc k → k < w.heap.size) (ha : ∀ k, Sc k → ¬ S k) (hS' : ∀ k, S' k → S k ∨ w.heap.size ≤ k) : ∀ k, Sc k → ¬ S' k := fun k h1 h2 => by
  rcases hS' k h2 with h | h
  · exact ha k h1 h
  · have := hc k h1; omega
theorem from_chg {w : World} {S S' : Nat → Prop} {N : Nat} (hS : ∀ k, S k → N ≤ k) (hN : N ≤ w.heap.size) (hS' : ∀ k, S' k → S k ∨ w.heap.size ≤ k) : ∀ k, S' k → N ≤ k := fun k h => by
  rcases hS' k h with h | h
  · exact hS k h
  · omega
theorem num_any (w : World) (x : Int) : Calls Try.prog 17 #[.int .i64 x] w fun e w' => e = .returned (.int .i64 x) ∧ w = w' := by
  go_enter Try.func17, Try.ntmps17
  go_wp2
  go_ret
  exact ⟨rfl, rfl⟩
end Go.Proofs.Ytmajfiljajbipaa
