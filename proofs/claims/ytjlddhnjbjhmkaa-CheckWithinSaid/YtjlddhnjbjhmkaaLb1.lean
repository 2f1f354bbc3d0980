/- Layer 6: bytes of memory at their bounds. -/
import Derived.Test.YtjlddhnjbjhmkaaLb0
import Derived.BigQuiet
set_option linter.unusedVariables false
set_option linter.unusedSimpArgs false
namespace Go.Proofs.Ytjlddhnjbjhmkaa
open Go.RowKit

theorem kb_true (w : World) : Blk (w.alloc (.cells #[.bool true, .bool false, .int .u32 0, .int .u32 0, .bool false, .int .u32 0, .int .u32 0, .bool false, .int .u32 0, .int .u32 0, .bool false, .int .u32 0, .int .u32 0, .bool false, .int .u32 0, .int .u32 0, .bool false, .int .u32 0, .int .u32 0, .bool false, .int .u32 0, .int .u32 0, .bool false, .int .u32 0, .int .u32 0, .bool false, .int .u32 0, .int .u32 0, .bool false, .int .u32 0, .int .u32 0] 42)) w.heap.size 42 31 (knF ⟨true, fun _ => rg0⟩) := by
  have e : (#[.bool true, .bool false, .int .u32 0, .int .u32 0, .bool false, .int .u32 0, .int .u32 0, .bool false, .int .u32 0, .int .u32 0, .bool false, .int .u32 0, .int .u32 0, .bool false, .int .u32 0, .int .u32 0, .bool false, .int .u32 0, .int .u32 0, .bool false, .int .u32 0, .int .u32 0, .bool false, .int .u32 0, .int .u32 0, .bool false, .int .u32 0, .int .u32 0, .bool false, .int .u32 0, .int .u32 0] : Array Value) = (knL ⟨true, fun _ => rg0⟩).toArray := by kernel_rfl
  rw [e]
  exact Blk.boxed w 42 31 _
theorem Blk.setr {W : World} {b : Nat} {k : Kn} (h : Blk W b 42 31 (knF k)) (n : Nat) (r : Rg) : Blk (W.setCells b (1 + n * 3) [.bool r.s, .int .u32 (r.l : Int), .int .u32 (r.g : Int)]) b 42 31 (knF ⟨k.come, upd k.r n r⟩) :=
  (Blk.setCells [.bool r.s, .int .u32 (r.l : Int), .int .u32 (r.g : Int)] (1 + n * 3) W (knF k) h).congr (knF_upd k n r)
def fitsB (l g : Nat) (off : Int) (size : Nat) : Bool := decide (0 ≤ (l : Int) + off) && decide ((g : Int) + off < size)
theorem blk_rg {W : World} {b : Nat} {t : TypeId} {u v z : Value} (h : Blk W b t 3 (fun j => [u, v, z].getD j undef)) : W.rangeAt b 0 [u, v, z] := by
  have := h.range
  exact this
theorem bounds_may (off : Int) (ho1 : -32768 ≤ off) (ho2 : off ≤ 32767) : mayB ⟨16, 0, 2, off, 0⟩ = true ∧ mayB ⟨17, 0, 2, off, 0⟩ = true ∧ mayB ⟨18, 2, 5, off, 0⟩ = true := by
  refine ⟨?_, ?_, ?_⟩ <;> (simp [mayB, mayN, withinB, uD, uS, uO, uI, usesN, mostN]; omega)
theorem bounds_k (l g : Nat) (hg : g < 4294967296) (hlg : l ≤ g) : (Kn.mk true (upd (upd (fun _ => rg0) 2 ⟨true, l, g⟩) 5 ⟨true, 0, 0⟩)).right := by
  intro n
  show (upd (upd (fun _ => rg0) 2 ⟨true, l, g⟩) 5 ⟨true, 0, 0⟩ n).ok
  unfold upd
  by_cases h5 : n = 5
  · rw [if_pos h5]; exact ⟨Nat.le_refl _, by decide, fun h => by cases h⟩
  · rw [if_neg h5]
    by_cases h2 : n = 2
    · rw [if_pos h2]; exact ⟨hlg, by show g ≤ _; omega, fun h => by cases h⟩
    · rw [if_neg h2]; exact ⟨Nat.le_refl _, Nat.zero_le _, fun _ => ⟨rfl, rfl⟩⟩
theorem fits_iff (l g : Nat) (off : Int) (size : Nat) : fitsB l g off size = true ↔ (0 ≤ (l : Int) + off ∧ (g : Int) + off < size) := by simp [fitsB]
theorem bounds_b (ctx n l g : Nat) (off : Int) (op size d s : Nat) (h : n = 0 ∧ op = 16 ∧ size = ctx ∧ d = 0 ∧ s = 2 ∨ n = 1 ∧ op = 17 ∧ size = 64 ∧ d = 0 ∧ s = 2 ∨ n = 2 ∧ op = 18 ∧ size = 64 ∧ d = 2 ∧ s = 5) :
    (fitsB l g off size = true → ∃ a b, behindB ctx ⟨op, d, s, off, 0⟩ ⟨true, upd (upd (fun _ => rg0) 2 ⟨true, l, g⟩) 5 ⟨true, 0, 0⟩⟩ = .ok a b) ∧ (fitsB l g off size = false → behindB ctx ⟨op, d, s, off, 0⟩ ⟨true, upd (upd (fun _ => rg0) 2 ⟨true, l, g⟩) 5 ⟨true, 0, 0⟩⟩ = .no 163) := by
  have hf := fits_iff l g off size
  rcases h with ⟨rfl, rfl, rfl, rfl, rfl⟩ | ⟨rfl, rfl, rfl, rfl, rfl⟩ | ⟨rfl, rfl, rfl, rfl, rfl⟩
  · have e : behindB size ⟨16, 0, 2, off, 0⟩ ⟨true, upd (upd (fun _ => rg0) 2 ⟨true, l, g⟩) 5 ⟨true, 0, 0⟩⟩ = if 0 ≤ (l : Int) + off ∧ (g : Int) + off < size then .ok (Kn.put ⟨true, upd (upd (fun _ => rg0) 2 ⟨true, l, g⟩) 5 ⟨true, 0, 0⟩⟩ 0 ⟨0, 255⟩) kn0 else .no 163 := rfl
    rw [e]
    exact ⟨fun h => by rw [if_pos (hf.1 h)]; exact ⟨_, _, rfl⟩, fun h => by rw [if_neg (fun hc => by rw [hf.2 hc] at h; cases h)]⟩
  · have e : behindB ctx ⟨17, 0, 2, off, 0⟩ ⟨true, upd (upd (fun _ => rg0) 2 ⟨true, l, g⟩) 5 ⟨true, 0, 0⟩⟩ = if 0 ≤ (l : Int) + off ∧ (g : Int) + off < (64 : Nat) then .ok (Kn.put ⟨true, upd (upd (fun _ => rg0) 2 ⟨true, l, g⟩) 5 ⟨true, 0, 0⟩⟩ 0 ⟨0, 255⟩) kn0 else .no 163 := rfl
    rw [e]
    exact ⟨fun h => by rw [if_pos (hf.1 h)]; exact ⟨_, _, rfl⟩, fun h => by rw [if_neg (fun hc => by rw [hf.2 hc] at h; cases h)]⟩
  · have e : behindB ctx ⟨18, 2, 5, off, 0⟩ ⟨true, upd (upd (fun _ => rg0) 2 ⟨true, l, g⟩) 5 ⟨true, 0, 0⟩⟩ = if 0 ≤ (l : Int) + off ∧ (g : Int) + off < (64 : Nat) then .ok ⟨true, upd (upd (fun _ => rg0) 2 ⟨true, l, g⟩) 5 ⟨true, 0, 0⟩⟩ kn0 else .no 163 := rfl
    rw [e]
    exact ⟨fun h => by rw [if_pos (hf.1 h)]; exact ⟨_, _, rfl⟩, fun h => by rw [if_neg (fun hc => by rw [hf.2 hc] at h; cases h)]⟩
/-- What Behind tells of these: no error where it fits. -/
theorem bounds_ev (ctx n l g : Nat) (off : Int) (op size d s : Nat) (h : n = 0 ∧ op = 16 ∧ size = ctx ∧ d = 0 ∧ s = 2 ∨ n = 1 ∧ op = 17 ∧ size = 64 ∧ d = 0 ∧ s = 2 ∨ n = 2 ∧ op = 18 ∧ size = 64 ∧ d = 2 ∧ s = 5) {nx jx : Kn} {ev : Nat}
    (hb : (ev = 0 ∧ behindB ctx ⟨op, d, s, off, 0⟩ ⟨true, upd (upd (fun _ => rg0) 2 ⟨true, l, g⟩) 5 ⟨true, 0, 0⟩⟩ = .ok nx jx) ∨ (ev ≠ 0 ∧ behindB ctx ⟨op, d, s, off, 0⟩ ⟨true, upd (upd (fun _ => rg0) 2 ⟨true, l, g⟩) 5 ⟨true, 0, 0⟩⟩ = .no ev)) : ev = if fitsB l g off size = true then 0 else 163 := by
  obtain ⟨h1, h2⟩ := bounds_b ctx n l g off op size d s h
  rcases hf : fitsB l g off size with _ | _
  · have := h2 hf
    rcases hb with ⟨_, hb⟩ | ⟨_, hb⟩
    · rw [this] at hb; cases hb
    · rw [this] at hb; injection hb with hb; exact hb.symm
  · obtain ⟨a, b, this⟩ := h1 hf
    rcases hb with ⟨h0, hb⟩ | ⟨_, hb⟩
    · exact h0
    · rw [this] at hb; cases hb
end Go.Proofs.Ytjlddhnjbjhmkaa
