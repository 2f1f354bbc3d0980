/- The disk in memory: rows of structs; what a disk's block holds. -/
import Derived.Test.YtmajfiljajbipaaApp
set_option linter.unusedVariables false
namespace Go.Proofs.Ytmajfiljajbipaa
open Go.RowKit

/-! ### rows of elements that are more than one cell, or lead on -/
structure Rws {α : Type} (R : α → List Value → Prop) (sz : Nat) (xs : List α) (cells : List Value) : Prop where
  len : cells.length = xs.length * sz
  at_ : ∀ i x, xs[i]? = some x → R x ((cells.drop (i * sz)).take sz)
theorem Rws.nil {α : Type} (R : α → List Value → Prop) (sz : Nat) : Rws R sz [] [] := ⟨by simp, fun i x h => by simp at h⟩
theorem Rws.imp {α : Type} {R R' : α → List Value → Prop} {sz : Nat} {xs : List α} {cs : List Value} (h : Rws R sz xs cs) (hR : ∀ x c, R x c → R' x c) : Rws R' sz xs cs := ⟨h.len, fun i x hx => hR _ _ (h.at_ i x hx)⟩
theorem Rws.append {α : Type} {R : α → List Value → Prop} {sz : Nat} {xs ys : List α} {cs ds : List Value} (h : Rws R sz xs cs) (k : Rws R sz ys ds) : Rws R sz (xs ++ ys) (cs ++ ds) := by
  refine ⟨by rw [List.length_append, List.length_append, h.len, k.len, Nat.add_mul], fun i x hx => ?_⟩
  by_cases hi : i < xs.length
  · rw [List.getElem?_append_left hi] at hx
    have := h.at_ i x hx
    have hle : i * sz + sz ≤ cs.length := by rw [h.len, ← Nat.succ_mul]; exact Nat.mul_le_mul_right _ hi
    rw [List.drop_append_of_le_length (by omega), List.take_append_of_le_length (by rw [List.length_drop]; omega)]
    exact this
  · rw [List.getElem?_append_right (by omega)] at hx
    have := k.at_ _ x hx
    have e : i * sz = cs.length + (i - xs.length) * sz := by rw [h.len, ← Nat.add_mul]; congr 1; omega
    rw [e, List.drop_append, List.drop_eq_nil_of_le (by omega)]
    simpa using this
theorem Rws.one {α : Type} {R : α → List Value → Prop} {sz : Nat} {x : α} {cs : List Value} (hl : cs.length = sz) (h : R x cs) : Rws R sz [x] cs := by
  refine ⟨by simp [hl], fun i y hy => ?_⟩
  match i, hy with
  | 0, hy => simp at hy; subst hy; simp [← hl]; exact h
  | i + 1, hy => simp at hy
theorem Rws.take {α : Type} {R : α → List Value → Prop} {sz : Nat} {xs : List α} {cs : List Value} (h : Rws R sz xs cs) (n : Nat) (hn : n ≤ xs.length) : Rws R sz (xs.take n) (cs.take (n * sz)) := by
  refine ⟨by rw [List.length_take, List.length_take, h.len, Nat.min_eq_left hn, Nat.min_eq_left (Nat.mul_le_mul_right _ hn)], fun i x hx => ?_⟩
  rw [List.getElem?_take] at hx
  split at hx
  · rename_i hi
    have := h.at_ i x hx
    rw [List.drop_take, List.take_take, Nat.min_eq_left]
    · exact this
    · have : (i + 1) * sz ≤ n * sz := Nat.mul_le_mul_right _ hi
      rw [Nat.succ_mul] at this; omega
  · cases hx
theorem Rws.drop {α : Type} {R : α → List Value → Prop} {sz : Nat} {xs : List α} {cs : List Value} (h : Rws R sz xs cs) (n : Nat) : Rws R sz (xs.drop n) (cs.drop (n * sz)) := by
  refine ⟨by rw [List.length_drop, List.length_drop, h.len, Nat.sub_mul], fun i x hx => ?_⟩
  rw [List.getElem?_drop] at hx
  rw [List.drop_drop, ← Nat.add_mul]
  exact h.at_ _ x hx
/-- A cell of an element. -/
theorem Rws.cell {α : Type} {R : α → List Value → Prop} {sz : Nat} {xs : List α} {cs : List Value} (h : Rws R sz xs cs) {i : Nat} (hi : i < xs.length) : ∃ c, R xs[i] c ∧ ∀ j, j < sz → cs[i * sz + j]? = c[j]? := by
  refine ⟨_, h.at_ i xs[i] (List.getElem?_eq_getElem hi), fun j hj => ?_⟩
  rw [List.getElem?_take, if_pos hj, List.getElem?_drop]

/-! ### a write: a place, bytes -/
def WrR (w : World) (ok : Nat → Prop) (x : Nat × List UInt8) (cs : List Value) : Prop := ∃ A c, cs = [.int .i64 (x.1 : Int), .slice A x.2.length c] ∧ By w ok A x.2.length c x.2
theorem WrR.move {w w1 : World} {ok : Nat → Prop} {x : Nat × List UInt8} {cs : List Value} (h : WrR w ok x cs) (hm : Mv ok w w1) : WrR w1 ok x cs := by
  obtain ⟨A, c, e, h⟩ := h; exact ⟨A, c, e, Sl.move h hm⟩
theorem WrR.mono {w : World} {ok ok1 : Nat → Prop} {x : Nat × List UInt8} {cs : List Value} (h : WrR w ok x cs) (ho : ∀ k, k < w.heap.size → ok k → ok1 k) : WrR w ok1 x cs := by
  obtain ⟨A, c, e, h⟩ := h; exact ⟨A, c, e, Sl.mono h ho⟩

/-! ### the disk -/
structure Dk where
  now : List UInt8
  lasts : List UInt8
  waits : List (Nat × List UInt8)
  steps : Int
  armed : Int

structure DiskAt (w : World) (fp ok : Nat → Prop) (p : Nat) (d : Dk) (nb nc : Nat) (LA : Option Addr) (lc : Nat) (WA : Option Addr) (wc : Nat) (wcs : List Value) : Prop where
  blk : w.heap[p]? = some (.cells #[.slice (some ⟨nb, 0, none⟩) d.now.length nc, .slice LA d.lasts.length lc, .slice WA d.waits.length wc, .int .i64 d.steps, .int .i64 d.armed] 75 (0, 0))
  now : w.ownsRow 0 5 1 (.slice (some ⟨nb, 0, none⟩) d.now.length nc) d.now.length (bv d.now)
  lasts : By w ok LA d.lasts.length lc d.lasts
  waits : w.ownsRow 0 79 2 (.slice WA d.waits.length wc) d.waits.length wcs
  wrs : Rws (WrR w ok) 2 d.waits wcs
  fpp : fp p
  fpn : fp nb
  fpw : ∀ k, (Value.slice WA d.waits.length wc).ownBlock = some k → fp k
  fps : ∀ k, fp k → k < w.heap.size
  dis : ∀ k, ok k → ¬ fp k
  pos : 0 < d.now.length
  big : d.now.length ≤ 1048576
  same : d.lasts.length = d.now.length
  fits : ∀ x, x ∈ d.waits → x.1 + x.2.length ≤ d.now.length

def Disk (w : World) (fp ok : Nat → Prop) (p : Nat) (d : Dk) : Prop := ∃ nb nc LA lc WA wc wcs, DiskAt w fp ok p d nb nc LA lc WA wc wcs

theorem blk_ne {w : World} {g g' : Nat} {t t' : TypeId} {cs cs' : Array Value} {fr fr' : Nat × Nat} (h : w.heap[g]? = some (.cells cs t fr)) (h' : w.heap[g']? = some (.cells cs' t' fr')) (hne : t ≠ t') : g ≠ g' := by
  rintro rfl
  rw [h] at h'
  injection h' with h'
  injection h' with _ h'
  exact hne h'
theorem own_blk {w : World} {base sz n : Nat} {e : TypeId} {v : Value} {xs : List Value} (h : w.ownsRow base e sz v n xs) {k : Nat} (hk : v.ownBlock = some k) : ∃ cs, w.heap[k]? = some (.cells cs e (0, 0)) := by
  rcases h.2 with ⟨rfl, _⟩ | ⟨g, cap, cur, rfl, _, hg, _⟩
  · simp [Value.ownBlock] at hk
  · simp [Value.ownBlock] at hk; subst hk; exact ⟨cur, hg⟩

theorem DiskAt.move {w w1 : World} {fp ok : Nat → Prop} {p : Nat} {d : Dk} {nb nc : Nat} {LA : Option Addr} {lc : Nat} {WA : Option Addr} {wc : Nat} {wcs : List Value} (h : DiskAt w fp ok p d nb nc LA lc WA wc wcs)
    (hm : Mv (fun k => fp k ∨ ok k) w w1) : DiskAt w1 fp ok p d nb nc LA lc WA wc wcs := by
  have hk : ∀ k, fp k → w1.heap[k]? = w.heap[k]? := fun k hk => hm.block k (h.fps k hk) (.inl hk)
  have hmo : Mv ok w w1 := hm.mono (fun _ _ ho => .inr ho)
  exact { h with
    blk := (hk p h.fpp).trans h.blk
    now := own_move h.now (fun k hk' _ => by simp [Value.ownBlock] at hk'; subst hk'; exact hk _ h.fpn)
    lasts := Sl.move h.lasts hmo
    waits := own_move h.waits (fun k hk' _ => hk _ (h.fpw k hk'))
    wrs := h.wrs.imp (fun _ _ hx => hx.move hmo)
    fps := fun k hk' => Nat.lt_of_lt_of_le (h.fps k hk') hm.size }
theorem DiskAt.mono {w : World} {fp ok ok1 : Nat → Prop} {p : Nat} {d : Dk} {nb nc : Nat} {LA : Option Addr} {lc : Nat} {WA : Option Addr} {wc : Nat} {wcs : List Value} (h : DiskAt w fp ok p d nb nc LA lc WA wc wcs)
    (ho : ∀ k, k < w.heap.size → ok k → ok1 k) (hd : ∀ k, ok1 k → ¬ fp k) : DiskAt w fp ok1 p d nb nc LA lc WA wc wcs :=
  { h with
    lasts := Sl.mono h.lasts ho
    wrs := h.wrs.imp (fun _ _ hx => hx.mono ho)
    dis := hd }
theorem Disk.move {w w1 : World} {fp ok : Nat → Prop} {p : Nat} {d : Dk} (h : Disk w fp ok p d) (hm : Mv (fun k => fp k ∨ ok k) w w1) : Disk w1 fp ok p d := by
  obtain ⟨nb, nc, LA, lc, WA, wc, wcs, h⟩ := h; exact ⟨nb, nc, LA, lc, WA, wc, wcs, h.move hm⟩
theorem Disk.mono {w : World} {fp ok ok1 : Nat → Prop} {p : Nat} {d : Dk} (h : Disk w fp ok p d) (ho : ∀ k, k < w.heap.size → ok k → ok1 k) (hd : ∀ k, ok1 k → ¬ fp k) : Disk w fp ok1 p d := by
  obtain ⟨nb, nc, LA, lc, WA, wc, wcs, h⟩ := h; exact ⟨nb, nc, LA, lc, WA, wc, wcs, h.mono ho hd⟩

/-- Bytes laid over others. -/
def lay (l : List UInt8) (at_ : Nat) (b : List UInt8) : List UInt8 := l.take at_ ++ (b ++ l.drop (at_ + b.length))
theorem lay_length (l : List UInt8) (at_ : Nat) (b : List UInt8) (h : at_ + b.length ≤ l.length) : (lay l at_ b).length = l.length := by simp [lay]; omega
theorem bv_lay (l : List UInt8) (at_ : Nat) (b : List UInt8) : splice (bv l) at_ (bv b) = bv (lay l at_ b) := by simp [splice, lay, bv, List.map_take, List.map_drop]

theorem write1_end {w w1 w2 : World} {fp ok : Nat → Prop} {p : Nat} {d : Dk} {nb nc : Nat} {LA : Option Addr} {lc : Nat} {WA : Option Addr} {wc : Nat} {wcs : List Value} (h : DiskAt w fp ok p d nb nc LA lc WA wc wcs) {A A2 : Option Addr} {c c2 at_ : Nat} {b : List UInt8} {o : Obj}
    (hb : By w ok A b.length c b) (hfit : at_ + b.length ≤ d.now.length)
    (hown1 : w1.ownsRow 0 5 1 (.slice (some ⟨nb, 0, none⟩) d.now.length nc) d.now.length (bv (lay d.now at_ (b.take b.length)))) (hk1 : Kp (· = nb) w w1)
    (hg : (w1.alloc o).drew.grownBy w2 (Value.slice WA d.waits.length wc).ownBlock) (hown2 : w2.ownsRow 0 79 2 (.slice A2 (d.waits.length + 1) c2) (d.waits.length + 1) (wcs ++ [.int .i64 (at_ : Int), .slice A b.length c]))
    (hat : (Value.slice A2 (d.waits.length + 1) c2).ownBlock = (Value.slice WA d.waits.length wc).ownBlock ∨ (Value.slice A2 (d.waits.length + 1) c2).ownBlock = some (w1.alloc o).drew.heap.size) :
    ∃ fp', Disk (w2.setCell ⟨p, 2, none⟩ (.slice A2 (d.waits.length + 1) c2)) fp' (fun k => (ok k ∨ w.heap.size ≤ k) ∧ ¬ fp' k) p { d with now := lay d.now at_ b, waits := d.waits ++ [(at_, b)] } ∧
      Kp fp w (w2.setCell ⟨p, 2, none⟩ (.slice A2 (d.waits.length + 1) c2)) ∧ ∀ k, fp' k → fp k ∨ w.heap.size ≤ k := by
  rw [List.take_length] at hown1
  have hlw : w.heap.size ≤ w1.heap.size := hk1.size
  obtain ⟨cur, hnb⟩ := own_blk h.now (k := nb) rfl
  have npn : p ≠ nb := blk_ne h.blk hnb (by decide)
  have hp1 : w1.heap[p]? = _ := (hk1.block p (h.fps p h.fpp) npn).trans h.blk
  have hw1 : ∀ k, (Value.slice WA d.waits.length wc).ownBlock = some k → ∃ cs, w.heap[k]? = some (.cells cs 79 (0, 0)) := fun k hk => own_blk h.waits hk
  have hnbw : some nb ≠ (Value.slice WA d.waits.length wc).ownBlock := fun e => by obtain ⟨cs, hc⟩ := hw1 nb e.symm; exact blk_ne hc hnb (by decide) rfl
  have hpw : some p ≠ (Value.slice WA d.waits.length wc).ownBlock := fun e => by obtain ⟨cs, hc⟩ := hw1 p e.symm; exact blk_ne hc h.blk (by decide) rfl
  have hX : ∀ k, k < w1.heap.size → (w1.alloc o).drew.heap[k]? = w1.heap[k]? := fun k hk => Below.heap_alloc w1 o k hk
  have hszX : (w1.alloc o).drew.heap.size = w1.heap.size + 1 := by show (w1.alloc o).heap.size = _; simp
  have hp2 : w2.heap[p]? = _ := (hg.block p (by have := h.fps p h.fpp; omega) hpw).trans ((hX p (by have := h.fps p h.fpp; omega)).trans hp1)
  have hK : Kp fp w (w2.setCell ⟨p, 2, none⟩ (.slice A2 (d.waits.length + 1) c2)) :=
    (((((hk1.mono (fun k _ e => by subst e; exact h.fpn)).alloc o).drew).grown hg (fun k hk => .inl (h.fpw k hk))).setCell (.inl h.fpp) _)
  obtain ⟨fp', hfp'⟩ : ∃ fp' : Nat → Prop, fp' = fun k => k = p ∨ k = nb ∨ (Value.slice A2 (d.waits.length + 1) c2).ownBlock = some k := ⟨_, rfl⟩
  have hsub : ∀ k, fp' k → fp k ∨ w.heap.size ≤ k := fun k hk => by
    subst hfp'
    rcases hk with rfl | rfl | hk
    · exact .inl h.fpp
    · exact .inl h.fpn
    · rcases hat with e | e
      · exact .inl (h.fpw k (e.symm.trans hk))
      · rw [e] at hk; injection hk with hk; exact .inr (by omega)
  have hok : ∀ k, k < w.heap.size → ok k → (fun k => (ok k ∨ w.heap.size ≤ k) ∧ ¬ fp' k) k := fun k hlt ho => ⟨.inl ho, fun hf => by
    rcases hsub k hf with h1 | h1
    · exact h.dis k ho h1
    · omega⟩
  have hMv : Mv ok w (w2.setCell ⟨p, 2, none⟩ (.slice A2 (d.waits.length + 1) c2)) := Mv.of_kp hK (fun k _ ho => h.dis k ho)
  have hll : (lay d.now at_ b).length = d.now.length := lay_length _ _ _ hfit
  have hsz2 : w1.heap.size + 1 ≤ w2.heap.size := by have := hg.size; omega
  have hmon : ∀ {ok1 : Nat → Prop} {A : Option Addr} {n c : Nat} {l : List UInt8}, By w ok A n c l → By (w2.setCell ⟨p, 2, none⟩ (.slice A2 (d.waits.length + 1) c2)) (fun k => (ok k ∨ w.heap.size ≤ k) ∧ ¬ fp' k) A n c l := fun {_ _ _ _ _} hy =>
    Sl.move (Sl.mono hy (ok1 := fun k => (ok k ∨ w.heap.size ≤ k) ∧ ¬ fp' k) hok) (Mv.of_kp hK (fun k hlt ho hf => by
      rcases ho.1 with h1 | h1
      · exact h.dis k h1 hf
      · omega))
  refine ⟨fp', ⟨nb, nc, LA, lc, A2, c2, wcs ++ [.int .i64 (at_ : Int), .slice A b.length c], ?_⟩, hK, hsub⟩
  refine { blk := ?_, now := ?_, lasts := hmon (ok1 := ok) h.lasts, waits := ?_, wrs := ?_, fpp := ?_, fpn := ?_, fpw := ?_, fps := ?_, dis := fun k hk => hk.2, pos := ?_, big := ?_, same := ?_, fits := ?_ }
  · rw [heap_setCell_same _ _ _ _ _ _ hp2]
    simp [hll]
  · simp only [hll]
    refine own_move hown1 (fun k hk _ => ?_)
    simp [Value.ownBlock] at hk
    subst hk
    have hlt : nb < w1.heap.size := Nat.lt_of_lt_of_le (h.fps nb h.fpn) hlw
    rw [heap_setCell_other _ _ _ _ (fun e => npn e.symm), hg.block nb (by omega) hnbw, hX nb hlt]
  · simp only [List.length_append, List.length_singleton]
    refine own_move hown2 (fun k hk _ => heap_setCell_other _ _ _ _ (fun e => ?_))
    obtain ⟨cs, hc⟩ := own_blk hown2 hk
    subst e
    exact blk_ne hc hp2 (by decide) rfl
  · refine Rws.append (h.wrs.imp (fun x cs hx => ?_)) (Rws.one rfl ⟨A, c, rfl, hmon (ok1 := ok) hb⟩)
    obtain ⟨A', c', e, hy⟩ := hx
    exact ⟨A', c', e, hmon (ok1 := ok) hy⟩
  · subst hfp'; exact .inl rfl
  · subst hfp'; exact .inr (.inl rfl)
  · intro k hk; subst hfp'; simp only [List.length_append, List.length_singleton] at hk; exact .inr (.inr hk)
  · intro k hk
    have e : (w2.setCell ⟨p, 2, none⟩ (.slice A2 (d.waits.length + 1) c2)).heap.size = w2.heap.size := by simp [World.setCell]
    rw [e]
    subst hfp'
    rcases hk with rfl | rfl | hk
    · have := h.fps _ h.fpp; omega
    · have := h.fps _ h.fpn; omega
    · exact (hown2.lt k hk).2
  · simp only [hll]; exact h.pos
  · simp only [hll]; exact h.big
  · simp only [hll]; exact h.same
  · intro x hx
    simp only [hll]
    rcases List.mem_append.1 hx with hx | hx
    · exact h.fits x hx
    · obtain rfl := List.mem_singleton.1 hx; exact hfit

/-- A number in the disk's block is set. -/
theorem DiskAt.set3 {w : World} {fp ok : Nat → Prop} {p : Nat} {d : Dk} {nb nc : Nat} {LA : Option Addr} {lc : Nat} {WA : Option Addr} {wc : Nat} {wcs : List Value} (h : DiskAt w fp ok p d nb nc LA lc WA wc wcs) (x : Int) :
    DiskAt (w.setCell ⟨p, 3, none⟩ (.int .i64 x)) fp ok p { d with steps := x } nb nc LA lc WA wc wcs := by
  obtain ⟨cur, hnb⟩ := own_blk h.now (k := nb) rfl
  have hoth : ∀ k, k ≠ p → (w.setCell ⟨p, 3, none⟩ (.int .i64 x)).heap[k]? = w.heap[k]? := fun k hk => heap_setCell_other _ _ _ _ hk
  have hmo : Mv ok w (w.setCell ⟨p, 3, none⟩ (.int .i64 x)) := Mv.setCell w (fun ho => h.dis p ho h.fpp) _
  exact { h with
    blk := by rw [heap_setCell_same _ _ _ _ _ _ h.blk]; simp
    now := own_move h.now (fun k hk _ => by simp [Value.ownBlock] at hk; subst hk; exact hoth _ (blk_ne h.blk hnb (by decide)).symm)
    lasts := Sl.move h.lasts hmo
    waits := own_move h.waits (fun k hk _ => by obtain ⟨cs, hc⟩ := own_blk h.waits hk; exact hoth _ (blk_ne h.blk hc (by decide)).symm)
    wrs := h.wrs.imp (fun _ _ hx => hx.move hmo)
    fps := fun k hk => by simpa [World.setCell] using h.fps k hk }
theorem DiskAt.set4 {w : World} {fp ok : Nat → Prop} {p : Nat} {d : Dk} {nb nc : Nat} {LA : Option Addr} {lc : Nat} {WA : Option Addr} {wc : Nat} {wcs : List Value} (h : DiskAt w fp ok p d nb nc LA lc WA wc wcs) (x : Int) :
    DiskAt (w.setCell ⟨p, 4, none⟩ (.int .i64 x)) fp ok p { d with armed := x } nb nc LA lc WA wc wcs := by
  obtain ⟨cur, hnb⟩ := own_blk h.now (k := nb) rfl
  have hoth : ∀ k, k ≠ p → (w.setCell ⟨p, 4, none⟩ (.int .i64 x)).heap[k]? = w.heap[k]? := fun k hk => heap_setCell_other _ _ _ _ hk
  have hmo : Mv ok w (w.setCell ⟨p, 4, none⟩ (.int .i64 x)) := Mv.setCell w (fun ho => h.dis p ho h.fpp) _
  exact { h with
    blk := by rw [heap_setCell_same _ _ _ _ _ _ h.blk]; simp
    now := own_move h.now (fun k hk _ => by simp [Value.ownBlock] at hk; subst hk; exact hoth _ (blk_ne h.blk hnb (by decide)).symm)
    lasts := Sl.move h.lasts hmo
    waits := own_move h.waits (fun k hk _ => by obtain ⟨cs, hc⟩ := own_blk h.waits hk; exact hoth _ (blk_ne h.blk hc (by decide)).symm)
    wrs := h.wrs.imp (fun _ _ hx => hx.move hmo)
    fps := fun k hk => by simpa [World.setCell] using h.fps k hk }
/-- What is known of a disk in a world that keeps what was there. -/
theorem DiskAt.below {w w1 : World} {fp ok : Nat → Prop} {p : Nat} {d : Dk} {nb nc : Nat} {LA : Option Addr} {lc : Nat} {WA : Option Addr} {wc : Nat} {wcs : List Value} (h : DiskAt w fp ok p d nb nc LA lc WA wc wcs) (hb : Below w.heap.size w w1) : DiskAt w1 fp ok p d nb nc LA lc WA wc wcs := h.move (Mv.of_below hb _)
theorem Disk.below {w w1 : World} {fp ok : Nat → Prop} {p : Nat} {d : Dk} (h : Disk w fp ok p d) (hb : Below w.heap.size w w1) : Disk w1 fp ok p d := h.move (Mv.of_below hb _)

/-- A step is done: its number, and how many are left. -/
def Dk.tick (d : Dk) : Dk := { d with steps := wrap64 (d.steps + 1), armed := if 0 < d.armed then wrap64 (d.armed - 1) else d.armed }

/-- The world behind a step's book-keeping. -/
def stepW (W : World) (p : Nat) (d : Dk) : World := (if 0 < d.armed then W.setCell ⟨p, 4, none⟩ (.int .i64 (wrap64 (d.armed - 1))) else W).setCell ⟨p, 3, none⟩ (.int .i64 (wrap64 (d.steps + 1)))
theorem stepW_size (W : World) (p : Nat) (d : Dk) : (stepW W p d).heap.size = W.heap.size := by unfold stepW; split <;> simp [World.setCell]
theorem stepW_other (W : World) (p : Nat) (d : Dk) (k : Nat) (hk : k ≠ p) : (stepW W p d).heap[k]? = W.heap[k]? := by
  unfold stepW
  rw [heap_setCell_other _ _ _ _ hk]
  split
  · rw [heap_setCell_other _ _ _ _ hk]
  · rfl
theorem stepW_kp {W : World} {fp : Nat → Prop} {p : Nat} {d : Dk} {w : World} (h : Kp fp w W) (hp : fp p) : Kp fp w (stepW W p d) := by
  unfold stepW
  split
  · exact (h.setCell (.inl hp) _).setCell (.inl hp) _
  · exact h.setCell (.inl hp) _
theorem stepW_disk {w : World} {fp ok : Nat → Prop} {p : Nat} {d : Dk} {nb nc : Nat} {LA : Option Addr} {lc : Nat} {WA : Option Addr} {wc : Nat} {wcs : List Value} (h : DiskAt w fp ok p d nb nc LA lc WA wc wcs) : DiskAt (stepW w p d) fp ok p d.tick nb nc LA lc WA wc wcs := by
  unfold stepW
  by_cases ha : 0 < d.armed
  · have := (h.set4 (wrap64 (d.armed - 1))).set3 (wrap64 (d.steps + 1))
    simpa [Dk.tick, ha] using this
  · have := h.set3 (wrap64 (d.steps + 1))
    simpa [Dk.tick, ha] using this

theorem flush1_end {w w1 : World} {fp ok : Nat → Prop} {p : Nat} {d : Dk} {nb nc : Nat} {LA : Option Addr} {lc : Nat} {WA : Option Addr} {wc : Nat} {wcs : List Value} (h : DiskAt w fp ok p d nb nc LA lc WA wc wcs) {A : Option Addr} {c : Nat}
    (hb : Below w.heap.size w w1) (hown : w1.ownsRow w.heap.size 5 1 (.slice A d.now.length c) d.now.length (bv d.now)) :
    ∃ fp', Disk ((w1.setCell ⟨p, 1, none⟩ (.slice A d.now.length c)).setCell ⟨p, 2, none⟩ (.slice none 0 0)) fp' (fun k => (ok k ∨ w.heap.size ≤ k) ∧ ¬ fp' k) p { d with lasts := d.now, waits := [] } ∧
      Kp fp w ((w1.setCell ⟨p, 1, none⟩ (.slice A d.now.length c)).setCell ⟨p, 2, none⟩ (.slice none 0 0)) ∧ ∀ k, fp' k → fp k ∨ w.heap.size ≤ k := by
  have hd1 := h.below hb
  obtain ⟨cur, hnb⟩ := own_blk hd1.now (k := nb) rfl
  have npn : p ≠ nb := blk_ne hd1.blk hnb (by decide)
  have hoth : ∀ k, k ≠ p → ((w1.setCell ⟨p, 1, none⟩ (.slice A d.now.length c)).setCell ⟨p, 2, none⟩ (.slice none 0 0)).heap[k]? = w1.heap[k]? := fun k hk => by rw [heap_setCell_other _ _ _ _ hk, heap_setCell_other _ _ _ _ hk]
  have hpl := h.fps p h.fpp
  refine ⟨fun k => k = p ∨ k = nb, ⟨nb, nc, A, c, none, 0, [], ?_⟩, ((Kp.of_below hb fp).setCell (.inl h.fpp) _).setCell (.inl h.fpp) _, fun k hk => .inl (by
    rcases hk with rfl | rfl
    · exact h.fpp
    · exact h.fpn)⟩
  refine { blk := ?_, now := ?_, lasts := ?_, waits := World.ownsRow_nil _ _ _ _, wrs := Rws.nil _ _, fpp := .inl rfl, fpn := .inr rfl, fpw := fun k hk => by simp [Value.ownBlock] at hk, fps := ?_, dis := fun k hk => hk.2, pos := h.pos, big := h.big, same := rfl, fits := fun x hx => by cases hx }
  · rw [heap_setCell_same _ _ _ _ _ _ (heap_setCell_same _ _ _ _ _ _ hd1.blk)]
    simp
  · exact own_move hd1.now (fun k hk _ => by simp [Value.ownBlock] at hk; subst hk; exact hoth _ npn.symm)
  · obtain ⟨A2, c2, he, hs⟩ := Sl.of_own (ok := fun k => w.heap.size ≤ k ∧ k ≠ p ∧ k ≠ nb) hown (fun k hk _ => by
      have h1 := (hown.lt k hk).1
      have h2 := h.fps nb h.fpn
      exact ⟨h1, by omega, by omega⟩)
    injection he with he1 he2 he3
    subst he1; subst he3
    refine Sl.mono (Sl.move hs ⟨by simp [World.setCell], fun k _ ho => hoth k ho.2.1⟩) (fun k _ ho => ⟨.inr ho.1, fun hf => ?_⟩)
    rcases hf with hf | hf
    · exact ho.2.1 hf
    · exact ho.2.2 hf
  · intro k hk
    have e : ((w1.setCell ⟨p, 1, none⟩ (.slice A d.now.length c)).setCell ⟨p, 2, none⟩ (.slice none 0 0)).heap.size = w1.heap.size := by simp [World.setCell]
    have h1 := hb.size
    have h2 := h.fps nb h.fpn
    rcases hk with rfl | rfl <;> omega
end Go.Proofs.Ytmajfiljajbipaa
