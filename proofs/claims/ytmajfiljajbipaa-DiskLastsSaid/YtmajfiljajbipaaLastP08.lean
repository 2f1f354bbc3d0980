/- DiskLasts: the plain law: what crashes leave where nothing was written, where all or nothing is kept. -/
import Derived.Test.YtmajfiljajbipaaRef6
set_option linter.unusedVariables false
set_option linter.unusedSimpArgs false
namespace Go.Proofs.Ytmajfiljajbipaa
open Go.RowKit

/-- Where it says false, no write that waits reaches. -/
def Unt (ts : List Bool) (ws : List (Nat × List UInt8)) : Prop := ∀ k, ts[k]? = some false → ∀ x, x ∈ ws → ¬ (x.1 ≤ k ∧ k < x.1 + x.2.length)
theorem Unt.nil (ts : List Bool) : Unt ts [] := fun _ _ x hx => by cases hx
theorem Unt.write {ts ts' : List Bool} {ws : List (Nat × List UInt8)} {a : Nat} {b : List UInt8} (h : Unt ts ws) (ht : ∀ k, ts'[k]? = some false → ts[k]? = some false ∧ ¬ (a ≤ k ∧ k < a + b.length)) : Unt ts' (ws ++ [(a, b)]) := by
  intro k hk x hx
  obtain ⟨h1, h2⟩ := ht k hk
  rcases List.mem_append.1 hx with hx | hx
  · exact h k h1 x hx
  · have : x = (a, b) := by simpa using hx
    subst this
    exact h2
theorem mark_set {ts ts' : List Bool} {a j n : Nat} (ht : ∀ k, ts'[k]? = some false → ts[k]? = some false ∧ ¬ (a ≤ k ∧ k < a + j)) (hl : ts'.length = n) (hj : a + j < n) :
    ∀ k, (ts'.set (a + j) true)[k]? = some false → ts[k]? = some false ∧ ¬ (a ≤ k ∧ k < a + (j + 1)) := by
  intro k hk
  rw [List.getElem?_set] at hk
  by_cases h : a + j = k
  · rw [if_pos h, if_pos (by omega)] at hk
    cases hk
  · rw [if_neg h] at hk
    obtain ⟨h1, h2⟩ := ht k hk
    exact ⟨h1, by omega⟩
theorem lay_off (l : List UInt8) (a : Nat) (b : List UInt8) (k : Nat) (h : ¬ (a ≤ k ∧ k < a + b.length)) (hf : a + b.length ≤ l.length) : (lay l a b)[k]? = l[k]? := by
  unfold lay
  rw [get3 _ _ _ a b.length k (by rw [List.length_take]; omega) rfl]
  split
  · rename_i h1
    rw [List.getElem?_take_of_lt h1]
  · split
    · rename_i h1 h2
      omega
    · rename_i h1 h2
      rw [List.getElem?_drop]
      congr 1
      omega
theorem layAll_off (xs : List (Nat × List UInt8)) : ∀ (l : List UInt8) (k : Nat), (∀ x, x ∈ xs → ¬ (x.1 ≤ k ∧ k < x.1 + x.2.length)) → (∀ x, x ∈ xs → x.1 + x.2.length ≤ l.length) → (layAll l xs)[k]? = l[k]? := by
  induction xs with
  | nil => intro l k _ _; rfl
  | cons x xs ih =>
    intro l k h hf
    have h1 := hf x (by simp)
    show (layAll (lay l x.1 x.2) xs)[k]? = _
    rw [ih _ k (fun y hy => h y (by simp [hy])) (fun y hy => by rw [lay_length _ _ _ h1]; exact hf y (by simp [hy])), lay_off _ _ _ _ (h x (by simp)) h1]
theorem torn_mem {ws : List (Nat × List UInt8)} {keep torn : Int} {x : Nat × List UInt8} (h : x ∈ tornOf ws keep torn) : ∃ y, y ∈ ws ∧ x.1 = y.1 ∧ x.2.length ≤ y.2.length := by
  by_cases hk : pick keep ws.length < ws.length
  · rw [torn_lt ws keep torn _ rfl hk] at h
    rcases List.mem_append.1 h with h | h
    · exact ⟨x, List.mem_of_mem_take h, rfl, Nat.le_refl _⟩
    · have hx := List.mem_singleton.1 h
      refine ⟨ws[pick keep ws.length], List.getElem_mem hk, by rw [hx], ?_⟩
      rw [hx, List.length_take]
      omega
  · rw [torn_all ws keep torn _ rfl hk] at h
    exact ⟨x, List.mem_of_mem_take h, rfl, Nat.le_refl _⟩
/-- Where nothing was written each crash leaves what lasts. -/
theorem crash_off {d : Dk} {ts : List Bool} (h : Unt ts d.waits) (hf : ∀ x, x ∈ d.waits → x.1 + x.2.length ≤ d.lasts.length) (keep torn : Int) (k : Nat) (hk : ts[k]? = some false) : (d.crash keep torn).lasts[k]? = d.lasts[k]? := by
  show (layAll d.lasts (tornOf d.waits keep torn))[k]? = _
  refine layAll_off _ _ _ (fun x hx => ?_) (fun x hx => ?_)
  · obtain ⟨y, hy, e1, e2⟩ := torn_mem hx
    have := h k hk y hy
    omega
  · obtain ⟨y, hy, e1, e2⟩ := torn_mem hx
    have := hf y hy
    omega
theorem crash_len {d : Dk} (hf : ∀ x, x ∈ d.waits → x.1 + x.2.length ≤ d.lasts.length) (keep torn : Int) : (d.crash keep torn).lasts.length = d.lasts.length := by
  show (layAll d.lasts (tornOf d.waits keep torn)).length = _
  exact layAll_length _ _ (fun x hx => by
    obtain ⟨y, hy, e1, e2⟩ := torn_mem hx
    have := hf y hy
    omega)
theorem pick_zero (n : Nat) : pick 0 n = 0 := by simp [pick]
theorem pick_self (n : Nat) : pick (n : Int) n = n := by
  unfold pick
  rw [Int.emod_eq_of_lt (by omega) (by omega)]
  omega
/-- One that keeps nothing leaves what lasts. -/
theorem crash_none (d : Dk) (hf : ∀ x, x ∈ d.waits → x.1 + x.2.length ≤ d.lasts.length) : (d.crash 0 0).lasts = d.lasts := by
  show layAll d.lasts (tornOf d.waits 0 0) = _
  by_cases hk : pick 0 d.waits.length < d.waits.length
  · have h0 : 0 < d.waits.length := by rw [pick_zero] at hk; exact hk
    rw [torn_lt d.waits 0 0 0 (pick_zero _).symm h0]
    have := hf _ (List.getElem_mem h0)
    simp [layAll, lay, pick_zero]
  · rw [torn_all d.waits 0 0 _ rfl hk, pick_zero]
    rfl
/-- One that keeps all leaves what stands. -/
theorem crash_all (d : Dk) : (d.crash (d.waits.length : Int) 0).lasts = layAll d.lasts d.waits := by
  show layAll d.lasts (tornOf d.waits d.waits.length 0) = _
  rw [torn_all d.waits _ _ _ rfl (by rw [pick_self]; omega), pick_self, List.take_length]
end Go.Proofs.Ytmajfiljajbipaa
