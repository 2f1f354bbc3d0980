/- Layer 6: a program that is made of instructions, one behind the other. -/
import Derived.Test.YtjlddhnjbjhmkaaLk1
import Derived.BigQuiet
import Derived.IntWalk
set_option linter.unusedVariables false
set_option linter.unusedSimpArgs false
namespace Go.Proofs.Ytjlddhnjbjhmkaa
open Go.RowKit
theorem insZ_len (xs : List InsZ) : (xs.flatMap insZC).length = xs.length * 5 := by
  induction xs with
  | nil => rfl
  | cons y ys ih => rw [List.flatMap_cons, List.length_append, ih, List.length_cons]; simp [insZC]; omega
theorem insZ_one (xs : List InsZ) : ∀ u ∈ xs.flatMap insZC, u.oneCell' = true := by
  intro u hu
  obtain ⟨i, _, hi⟩ := List.mem_flatMap.1 hu
  simp [insZC] at hi
  rcases hi with rfl | rfl | rfl | rfl | rfl <;> rfl
theorem info_ins : (Try.prog.info? 45).map (fun i => (i.zero, i.size, i.bytes)) = some (some (.agg #[.int .i64 0, .int .i64 0, .int .i64 0, .int .i64 0, .int .u32 0]), 5, 40) := by kernel_rfl
/-- A program that is made: its block g; its instructions are of the call's own. -/
structure PB (w : World) (g : Nat) (ctx : Int) (V : Value) (xs : List InsZ) (W : World) : Prop where
  b : Below w.heap.size w W
  g1 : w.heap.size ≤ g
  gz : g < W.heap.size
  blk : Blk W g 24 2 (fun j => if j = 0 then .int .i64 ctx else V)
  row : W.ownsRow w.heap.size 45 5 V xs.length (xs.flatMap insZC)
  vg : V.ownBlock ≠ some g
  im : ∀ i, i ∈ xs → i.imm < 4294967296
theorem PB.below {w : World} {g : Nat} {ctx : Int} {V : Value} {xs : List InsZ} {W W1 : World} (h : PB w g ctx V xs W) (hb : Below W.heap.size W W1) : PB w g ctx V xs W1 :=
  ⟨h.b.trans (hb.mono h.b.size), h.g1, by have := hb.size; have := h.gz; omega, h.blk.below hb, own_move h.row (fun k _ hlt => hb.block k hlt), h.vg, h.im⟩
theorem PB.drewp {w : World} {g : Nat} {ctx : Int} {V : Value} {xs : List InsZ} {W : World} (h : PB w g ctx V xs W) : PB w g ctx V xs W.drew := h.below ((Below.refl _ _).drew)
theorem PB.c0 {w : World} {g : Nat} {ctx : Int} {V : Value} {xs : List InsZ} {W : World} (h : PB w g ctx V xs W) : W.cell? ⟨g, 0, none⟩ = some (.int .i64 ctx) := h.blk.cell 0 (by omega)
theorem PB.c1 {w : World} {g : Nat} {ctx : Int} {V : Value} {xs : List InsZ} {W : World} (h : PB w g ctx V xs W) : W.cell? ⟨g, 1, none⟩ = some V := h.blk.cell 1 (by omega)
theorem PB.f1 {w : World} {g : Nat} {ctx : Int} {V : Value} {xs : List InsZ} {W : World} (h : PB w g ctx V xs W) : W.frozen? ⟨g, 1, none⟩ = false := h.blk.frozen 1
/-- Behind an append: what stood in the program's cell stands there yet. -/
theorem PB.grown {w : World} {g : Nat} {ctx : Int} {V : Value} {xs : List InsZ} {Y w6 : World} (h : PB w g ctx V xs Y) (hg : Y.grownBy w6 V.ownBlock) : w6.cell? ⟨g, 1, none⟩ = some V ∧ w6.frozen? ⟨g, 1, none⟩ = false := by
  have hk : Kp (fun b => V.ownBlock = some b) Y w6 := (Kp.refl _ Y).grown hg (fun k hk => .inl hk)
  have hB := h.blk.keep hk h.vg
  exact ⟨hB.cell 1 (by omega), hB.frozen 1⟩
theorem PB.growb {w : World} {g : Nat} {ctx : Int} {V : Value} {xs : List InsZ} {Y w6 : World} (h : PB w g ctx V xs Y) (hg : Y.grownBy w6 V.ownBlock) : Below w.heap.size w w6 := by
  have hk : Kp (fun b => V.ownBlock = some b) Y w6 := (Kp.refl _ Y).grown hg (fun k hk => .inl hk)
  exact ((Kp.of_below h.b No).trans hk (fun b hb e => by have := (h.row.lt b e).1; omega)).below
theorem ins_lit (w5 : World) (xs : List InsZ) (cs : Array Value) (n : Nat) (hn : n = xs.length) (hcs : cs.toList = xs.flatMap insZC) (hm : n ≤ 1000) : Sl (w5.alloc (.cells cs 45)) Any 5 (some ⟨w5.heap.size, 0, none⟩) n n (xs.flatMap insZC) := by
  subst hn
  have := Sl.lit w5 45 5 cs xs.length (by simp only [maxLen]; omega) (by rw [← Array.length_toList, hcs, insZ_len])
  rwa [hcs] at this
theorem PB.more {w : World} {g : Nat} {ctx : Int} {V V' : Value} {xs : List InsZ} {Y w6 : World} (h : PB w g ctx V xs Y) (ys : List InsZ) {m : Nat} {news : List Value} (hm : m = ys.length) (hn : news = ys.flatMap insZC) (him : ∀ i, i ∈ ys → i.imm < 4294967296)
    (hown : w6.ownsRow w.heap.size 45 5 V' (xs.length + m) (xs.flatMap insZC ++ news)) (hg : Y.grownBy w6 V.ownBlock) (hat : V'.ownBlock = V.ownBlock ∨ V'.ownBlock = some Y.heap.size) :
    PB w g ctx V' (xs ++ ys) (w6.setCell ⟨g, 1, none⟩ V') := by
  subst hm; subst hn
  have hk : Kp (fun b => V.ownBlock = some b) Y w6 := (Kp.refl _ Y).grown hg (fun k hk => .inl hk)
  have hB := h.blk.keep hk h.vg
  have hz := h.gz
  have hvg : V'.ownBlock ≠ some g := fun e => by
    rcases hat with q | q
    · exact h.vg (by rw [← q]; exact e)
    · rw [q] at e
      have : Y.heap.size = g := by injection e
      omega
  have hk2 : Kp (fun b => b = g) w6 (w6.setCell ⟨g, 1, none⟩ V') := (Kp.refl (fun b => b = g) w6).setCell (p := ⟨g, 1, none⟩) (.inl rfl) V'
  have hb6 : Below w.heap.size w w6 := ((Kp.of_below h.b No).trans hk (fun b hb e => by have := (h.row.lt b e).1; omega)).below
  refine ⟨hb6.setCell (by exact h.g1) _, h.g1, by have := hk.size; have := hk2.size; omega, (hB.set 1 V').congr (fun j hj => ?_), ?_, hvg, fun i hi => ?_⟩
  · by_cases e : j = 1
    · subst e; rfl
    · rw [if_neg e]
      have : j = 0 := by omega
      subst this; rfl
  · rw [List.length_append, List.flatMap_append]
    exact own_move hown (fun k hk' hlt => hk2.block k hlt (fun e => hvg (by rw [hk', e])))
  · rcases List.mem_append.1 hi with q | q
    · exact h.im i q
    · exact him i q

theorem PB.known {w : World} {g n : Nat} {ctx : Int} {A : Option Addr} {c : Nat} {xs : List InsZ} {W : World} (h : PB w g ctx (.slice A n c) xs W) (hn : n = xs.length) :
    Calls Try.prog 3 #[.agg #[.int .i64 ctx, .slice A n c]] W fun e w' => e = .returned (.bool true) ∧ Below w.heap.size w w' := by
  subst hn
  obtain ⟨A2, c2, he, hs⟩ := Sl.of_own (ok := Any) h.row (fun _ _ _ => trivial)
  injection he with e1 e2 e3
  subst e1; subst e3
  exact (checkknown_ok W ctx A c xs hs h.im).mono fun e w' ⟨h1, h2⟩ => ⟨h1, h.b.trans (h2.mono h.b.size)⟩
def movL (n : Nat) : List InsZ := (List.range n).map fun (j : Nat) => ⟨1, (j : Int), 0, 0, 3⟩
theorem movL_len (n : Nat) : (movL n).length = n := by simp [movL]
theorem movL_succ (n : Nat) : movL n ++ [⟨1, (n : Int), 0, 0, 3⟩] = movL (n + 1) := by unfold movL; rw [List.range_succ, List.map_append]; rfl
theorem pb_new (w W : World) (hb : Below w.heap.size w W) (ctx : Int) : PB w W.heap.size ctx (.slice none 0 0) [] (W.alloc (.cells #[.int .i64 ctx, .slice none 0 0] 24)) := by
  have hB : Blk (W.alloc (.cells #[.int .i64 ctx, .slice none 0 0] 24)) W.heap.size 24 2 (fun j => if j = 0 then .int .i64 ctx else .slice none 0 0) := by
    refine Blk.new W 24 _ 2 rfl _ (fun j hj => ?_)
    have : j = 0 ∨ j = 1 := by omega
    rcases this with rfl | rfl <;> rfl
  exact ⟨hb.alloc hb.size _, hb.size, by simp, hB, ⟨rfl, .inl ⟨rfl, rfl⟩⟩, (fun e => by cases e), (fun i hi => by cases hi)⟩
theorem tmod4 (x : Int) : x.tmod 4 = -3 ∨ x.tmod 4 = -2 ∨ x.tmod 4 = -1 ∨ x.tmod 4 = 0 ∨ x.tmod 4 = 1 ∨ x.tmod 4 = 2 ∨ x.tmod 4 = 3 := by
  rcases (show x < 0 ∨ 0 ≤ x by omega) with h | h
  · obtain ⟨y, hy⟩ : ∃ y : Int, y = -x := ⟨_, rfl⟩
    have e : x = -y := by omega
    rw [e, Int.neg_tmod, Int.tmod_eq_emod_of_nonneg (by omega)]
    omega
  · rw [Int.tmod_eq_emod_of_nonneg h]
    omega
end Go.Proofs.Ytjlddhnjbjhmkaa
