/- Disks that lie apart: a disk and the blocks that it depends on. -/
import Derived.Test.YtmajfiljajbipaaDsk6
set_option linter.unusedVariables false
namespace Go.Proofs.Ytmajfiljajbipaa
open Go.RowKit

/-- A disk, and the blocks S that it depends on. -/
def DiskS (w : World) (S : Nat → Prop) (p : Nat) (d : Dk) : Prop := (∀ k, S k → k < w.heap.size) ∧ ∃ fp, (∀ k, fp k → S k) ∧ Disk w fp (fun k => S k ∧ ¬ fp k) p d
theorem DiskS.of {w : World} {fp ok S : Nat → Prop} {p : Nat} {d : Dk} (h : Disk w fp ok p d) (hS : ∀ k, k < w.heap.size → fp k ∨ ok k → S k) : DiskS w (fun k => S k ∧ k < w.heap.size) p d := by
  have hfl : ∀ k, fp k → k < w.heap.size := by obtain ⟨nb, nc, LA, lc, WA, wc, wcs, h⟩ := h; exact h.fps
  have hdis : ∀ k, ok k → ¬ fp k := by obtain ⟨nb, nc, LA, lc, WA, wc, wcs, h⟩ := h; exact h.dis
  exact ⟨fun k hk => hk.2, fp, fun k hk => ⟨hS k (hfl k hk) (.inl hk), hfl k hk⟩, h.mono (fun k hk ho => ⟨⟨hS k hk (.inr ho), hk⟩, hdis k ho⟩) (fun k hk => hk.2)⟩
/-- A disk stays where what it depends on stays. -/
theorem DiskS.move {w w1 : World} {S M : Nat → Prop} {p : Nat} {d : Dk} (h : DiskS w S p d) (hk : Kp M w w1) (hM : ∀ k, S k → ¬ M k) : DiskS w1 S p d := by
  obtain ⟨h1, fp, h2, h3⟩ := h
  refine ⟨fun k hS => Nat.lt_of_lt_of_le (h1 k hS) hk.size, fp, h2, h3.move ⟨hk.size, fun k hlt ho => hk.block k hlt (hM k ?_)⟩⟩
  rcases ho with ho | ho
  · exact h2 k ho
  · exact ho.1
theorem DiskS.below {w w1 : World} {S : Nat → Prop} {p : Nat} {d : Dk} (h : DiskS w S p d) (hb : Below w.heap.size w w1) : DiskS w1 S p d := h.move (Kp.of_below hb No) (fun _ _ h => h)
/-- A disk turned into another one: nothing else is touched. -/
def Chg (w : World) (S : Nat → Prop) (p : Nat) (d : Dk) (w' : World) : Prop := ∃ S', DiskS w' S' p d ∧ Kp S w w' ∧ ∀ k, S' k → S k ∨ w.heap.size ≤ k
theorem Chg.same {w w1 : World} {S : Nat → Prop} {p : Nat} {d : Dk} (h : DiskS w S p d) (hb : Below w.heap.size w w1) : Chg w S p d w1 := ⟨S, h.below hb, Kp.of_below hb S, fun _ h => .inl h⟩
theorem DiskS.disk {w : World} {S : Nat → Prop} {p : Nat} {d : Dk} (h : DiskS w S p d) : ∃ fp, (∀ k, fp k → S k) ∧ Disk w fp (fun k => S k ∧ ¬ fp k) p d := h.2
theorem DiskS.props {w : World} {S : Nat → Prop} {p : Nat} {d : Dk} (h : DiskS w S p d) : 0 < d.now.length ∧ d.now.length ≤ 1048576 ∧ d.lasts.length = d.now.length ∧ (∀ x, x ∈ d.waits → x.1 + x.2.length ≤ d.now.length) := by
  obtain ⟨_, fp, _, nb, nc, LA, lc, WA, wc, wcs, h⟩ := h
  exact ⟨h.pos, h.big, h.same, h.fits⟩
theorem Chg.of {w w' : World} {S fp fp' ok' : Nat → Prop} {p : Nat} {d : Dk} (hSl : ∀ k, S k → k < w.heap.size) (hfS : ∀ k, fp k → S k) (hd : Disk w' fp' ok' p d) (hk : Kp fp w w') (hf : ∀ k, fp' k → fp k ∨ w.heap.size ≤ k)
    (ho : ∀ k, ok' k → S k ∨ w.heap.size ≤ k) : Chg w S p d w' := by
  refine ⟨_, DiskS.of (S := fun k => S k ∨ w.heap.size ≤ k) hd (fun k _ h => ?_), hk.mono (fun k _ h => hfS k h), fun k h => h.1⟩
  rcases h with h | h
  · exact (hf k h).imp (hfS k) id
  · exact ho k h

def Dk.wr (d : Dk) (x : Int) (b : List UInt8) : Dk × Int := if 0 ≤ x ∧ x ≤ d.now.length ∧ (b.length : Int) ≤ d.now.length - x then (if d.armed = 0 then (d, 180) else (d.write x.toNat b, 0)) else (d, 4)
def Dk.fl (d : Dk) : Dk × Int := if d.armed = 0 then (d, 180) else ({ d.tick with lasts := d.now, waits := [] }, 0)
def Dk.arm (d : Dk) (n : Int) : Dk := { d with armed := max n (-1) }

theorem write_S {w : World} {S : Nat → Prop} {p : Nat} {d : Dk} (h : DiskS w S p d) (x : Int) (A : Option Addr) (n c : Nat) (b : List UInt8) {okb : Nat → Prop} (hby : By w okb A n c b) (hw : d.waits.length ≤ 1048576) :
    Calls Try.prog 15 #[.pointer (some ⟨p,0,none⟩), .int .i64 x, .slice A n c] w fun e w' => e = .returned (.int .i64 (d.wr x b).2) ∧ Chg w S p (d.wr x b).1 w' := by
  have hlen : b.length = n := by have := hby.1; simpa [bv] using this
  obtain ⟨hl, fp, hf, hd⟩ := h
  by_cases hx : 0 ≤ x ∧ x ≤ d.now.length ∧ (n : Int) ≤ d.now.length - x
  · obtain ⟨at_, rfl⟩ : ∃ at_ : Nat, x = at_ := ⟨x.toNat, by omega⟩
    refine (write_ok hd at_ A n c b hby (by omega) hw).mono ?_
    rintro e w' (⟨ha, rfl, hb⟩ | ⟨ha, rfl, fp', hd', hk, hf'⟩)
    · unfold Dk.wr
      rw [hlen, if_pos hx, if_pos ha]
      exact ⟨rfl, Chg.same ⟨hl, fp, hf, hd⟩ hb⟩
    · unfold Dk.wr
      rw [hlen, if_pos hx, if_neg ha, Int.toNat_natCast]
      exact ⟨rfl, Chg.of hl hf hd' hk hf' (fun k h => h.1.imp (fun h => h.1) id)⟩
  · refine (write_range hd x A n c hx).mono ?_
    rintro e w' ⟨rfl, hb⟩
    unfold Dk.wr
    rw [hlen, if_neg hx]
    exact ⟨rfl, Chg.same ⟨hl, fp, hf, hd⟩ hb⟩
theorem flush_S {w : World} {S : Nat → Prop} {p : Nat} {d : Dk} (h : DiskS w S p d) :
    Calls Try.prog 16 #[.pointer (some ⟨p,0,none⟩)] w fun e w' => e = .returned (.int .i64 d.fl.2) ∧ Chg w S p d.fl.1 w' := by
  obtain ⟨hl, fp, hf, hd⟩ := h
  refine (flush_ok hd).mono ?_
  rintro e w' (⟨ha, rfl, hb⟩ | ⟨ha, rfl, fp', hd', hk, hf'⟩)
  · unfold Dk.fl
    rw [if_pos ha]
    exact ⟨rfl, Chg.same ⟨hl, fp, hf, hd⟩ hb⟩
  · unfold Dk.fl
    rw [if_neg ha]
    exact ⟨rfl, Chg.of hl hf hd' hk hf' (fun k h => h.1.imp (fun h => h.1) id)⟩
theorem arm_S {w : World} {S : Nat → Prop} {p : Nat} {d : Dk} (h : DiskS w S p d) (n : Int) :
    Calls Try.prog 14 #[.pointer (some ⟨p,0,none⟩), .int .i64 n] w fun e w' => e = .returned (.int .i64 0) ∧ Chg w S p (d.arm n) w' := by
  obtain ⟨hl, fp, hf, hd⟩ := h
  refine (arm_disk hd n).mono ?_
  rintro e w' ⟨rfl, hd', hk⟩
  exact ⟨rfl, Chg.of hl hf hd' hk (fun _ h => .inl h) (fun _ h => .inl h.1)⟩
/-- What a call makes that hands back a disk of its own. -/
def MadeS (w : World) (d : Dk) (e : Ending) (w' : World) : Prop := ∃ p S, e = .returned (.tuple #[.pointer (some ⟨p, 0, none⟩), .int .i64 0]) ∧ DiskS w' S p d ∧ (∀ k, S k → w.heap.size ≤ k) ∧ Below w.heap.size w w'
theorem MadeS.of {w w' : World} {d : Dk} {e : Ending} (h : Made w d e w') : MadeS w d e w' := by
  obtain ⟨p, fp, rfl, hd, hf, hb⟩ := h
  refine ⟨p, _, rfl, DiskS.of (S := fun k => w.heap.size ≤ k) hd (fun k _ h => ?_), fun k h => h.1, hb⟩
  rcases h with h | h
  · exact hf k h
  · exact h.1
theorem crash_S {w : World} {S : Nat → Prop} {p : Nat} {d : Dk} (h : DiskS w S p d) (keep torn : Int) (hw : d.waits.length ≤ 1048576) :
    Calls Try.prog 22 #[.pointer (some ⟨p, 0, none⟩), .agg #[.int .i64 keep, .int .i64 torn]] w (MadeS w (d.crash keep torn)) := by
  obtain ⟨hl, fp, hf, hd⟩ := h
  exact (crash_disk hd keep torn hw).mono (fun _ _ => MadeS.of)
theorem new_S (w : World) (n : Nat) (h1 : 1 ≤ n) (h2 : n ≤ 1048576) : Calls Try.prog 13 #[.int .i64 (n : Int)] w (MadeS w (Dk.of (List.replicate n 0))) := (new_ok w n h1 h2).mono (fun _ _ => MadeS.of)
theorem of_S {ok : Nat → Prop} (w : World) (A : Option Addr) (n c : Nat) (b : List UInt8) (h : By w ok A n c b) (h1 : 1 ≤ n) (h2 : n ≤ 1048576) : Calls Try.prog 28 #[.slice A n c] w (MadeS w (Dk.of b)) := (of_ok w A n c b h h1 h2).mono (fun _ _ => MadeS.of)
theorem chg_below {w0 w w' : World} {S : Nat → Prop} {N : Nat} (hb : Below N w0 w) (hk : Kp S w w') (hN : N ≤ w.heap.size) (hS : ∀ k, S k → N ≤ k) : Below N w0 w' :=
  hb.trans ⟨hk.os, hk.tape, hk.output, hk.size, fun k hlt => hk.block k (by omega) (fun h => by have := hS k h; omega)⟩
theorem apart_chg {w : World} {Sc S S' : Nat → Prop} (hc : ∀ k, Sc k → k < w.heap.size) (ha : ∀ k, Sc k → ¬ S k) (hS' : ∀ k, S' k → S k ∨ w.heap.size ≤ k) : ∀ k, Sc k → ¬ S' k := fun k h1 h2 => by
  rcases hS' k h2 with h | h
  · exact ha k h1 h
  · have := hc k h1; omega
theorem from_chg {w : World} {S S' : Nat → Prop} {N : Nat} (hS : ∀ k, S k → N ≤ k) (hN : N ≤ w.heap.size) (hS' : ∀ k, S' k → S k ∨ w.heap.size ≤ k) : ∀ k, S' k → N ≤ k := fun k h => by
  rcases hS' k h with h | h
  · exact hS k h
  · omega
theorem num_any (w : World) (x : Int) : Calls Try.prog 17 #[.int .i64 x] w fun e w' => e = .returned (.int .i64 x) ∧ w = w' := by
  go_enter Try.func17, Try.ntmps17
  go_wp2
  go_ret
  exact ⟨rfl, rfl⟩
end Go.Proofs.Ytmajfiljajbipaa
