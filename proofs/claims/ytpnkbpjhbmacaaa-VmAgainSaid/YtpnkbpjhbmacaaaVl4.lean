/- The laws of one kind each: a program that is made. -/
import Derived.Test.YtpnkbpjhbmacaaaVl3
import Derived.Test.YtpnkbpjhbmacaaaRow07
set_option linter.unusedVariables false
set_option linter.unusedSimpArgs false
namespace Go.Proofs.Ytpnkbpjhbmacaaa
open Go.RowKit

theorem insZ_len (xs : List InsZ) : (xs.flatMap insZC).length = xs.length * 5 := by
  induction xs with
  | nil => rfl
  | cons y ys ih => rw [List.flatMap_cons, List.length_append, ih, List.length_cons]; simp [insZC]; omega
theorem insZ_one (xs : List InsZ) : ∀ u ∈ xs.flatMap insZC, u.oneCell' = true := by
  intro u hu
  obtain ⟨i, _, hi⟩ := List.mem_flatMap.1 hu
  simp [insZC] at hi
  rcases hi with rfl | rfl | rfl | rfl | rfl <;> rfl
theorem info_ins : (Try.prog.info? 50).map (fun i => (i.zero, i.size, i.bytes)) = some (some (.agg #[.int .i64 0, .int .i64 0, .int .i64 0, .int .i64 0, .int .u32 0]), 5, 40) := by kernel_rfl
/-- A program that is made: its block g; its instructions are of the call's own. -/
structure PB (w : World) (g : Nat) (ctx : Int) (V : Value) (xs : List InsZ) (W : World) : Prop where
  b : Below w.heap.size w W
  g1 : w.heap.size ≤ g
  gz : g < W.heap.size
  blk : Blk W g 24 2 (fun j => if j = 0 then .int .i64 ctx else V)
  row : W.ownsRow w.heap.size 50 5 V xs.length (xs.flatMap insZC)
  vg : V.ownBlock ≠ some g
  im : ∀ i, i ∈ xs → i.imm < 4294967296
theorem PB.below {w : World} {g : Nat} {ctx : Int} {V : Value} {xs : List InsZ} {W W1 : World} (h : PB w g ctx V xs W) (hb : Below W.heap.size W W1) : PB w g ctx V xs W1 :=
  ⟨h.b.trans (hb.mono h.b.size), h.g1, by have := hb.size; have := h.gz; omega, h.blk.below hb, own_move h.row (fun k _ hlt => hb.block k hlt), h.vg, h.im⟩
theorem PB.drewp {w : World} {g : Nat} {ctx : Int} {V : Value} {xs : List InsZ} {W : World} (h : PB w g ctx V xs W) : PB w g ctx V xs W.drew := h.below ((Below.refl _ _).drew)
theorem PB.c0 {w : World} {g : Nat} {ctx : Int} {V : Value} {xs : List InsZ} {W : World} (h : PB w g ctx V xs W) : W.cell? ⟨g, 0, none⟩ = some (.int .i64 ctx) := h.blk.cell 0 (by omega)
theorem PB.c1 {w : World} {g : Nat} {ctx : Int} {V : Value} {xs : List InsZ} {W : World} (h : PB w g ctx V xs W) : W.cell? ⟨g, 1, none⟩ = some V := h.blk.cell 1 (by omega)
theorem PB.f1 {w : World} {g : Nat} {ctx : Int} {V : Value} {xs : List InsZ} {W : World} (h : PB w g ctx V xs W) : W.frozen? ⟨g, 1, none⟩ = false := h.blk.frozen 1
/-- Behind an append: what stood in the program's cell stands there yet. -/
theorem PB.grown {w : World} {g : Nat} {ctx : Int} {V : Value} {xs : List InsZ} {Y w6 : World} (h : PB w g ctx V xs Y) (hg : Y.grownBy w6 V.ownBlock) : w6.cell? ⟨g, 1, none⟩ = some V ∧ w6.frozen? ⟨g, 1, none⟩ = false := by
  have hk : Kp (fun b => V.ownBlock = some b) Y w6 := (Kp.refl _ Y).grown hg (fun k hk => .inl hk)
  have hB := h.blk.keep hk h.vg
  exact ⟨hB.cell 1 (by omega), hB.frozen 1⟩
theorem PB.growb {w : World} {g : Nat} {ctx : Int} {V : Value} {xs : List InsZ} {Y w6 : World} (h : PB w g ctx V xs Y) (hg : Y.grownBy w6 V.ownBlock) : Below w.heap.size w w6 := by
  have hk : Kp (fun b => V.ownBlock = some b) Y w6 := (Kp.refl _ Y).grown hg (fun k hk => .inl hk)
  exact ((Kp.of_below h.b No).trans hk (fun b hb e => by have := (h.row.lt b e).1; omega)).below
theorem ins_lit (w5 : World) (xs : List InsZ) (cs : Array Value) (n : Nat) (hn : n = xs.length) (hcs : cs.toList = xs.flatMap insZC) (hm : n ≤ 1000) : Sl (w5.alloc (.cells cs 50)) Any 5 (some ⟨w5.heap.size, 0, none⟩) n n (xs.flatMap insZC) := by
  subst hn
  have := Sl.lit w5 50 5 cs xs.length (by simp only [maxLen]; omega) (by rw [← Array.length_toList, hcs, insZ_len])
  rwa [hcs] at this
theorem PB.runsn {w : World} {g n : Nat} {ctx : Int} {A : Option Addr} {c : Nat} {xs : List InsZ} {W : World} (h : PB w g ctx (.slice A n c) xs W) (hn : n = xs.length) (cx : List UInt8) (CA : Option Addr) (cc : Nat) (hcx : By W Any CA cx.length cc cx) (B : Option Addr) (ca : Nat) (ans : List Nat) (hans : Wd W Any B ans.length ca ans) (hav : ∀ v, v ∈ ans → v < 4294967296) :
    Calls Try.prog 4 #[.agg #[.int .i64 ctx, .slice A n c], .slice CA cx.length cc, .slice B ans.length ca] W fun e w' => e = .returned (.bool true) ∧ Below w.heap.size w w' := by
  subst hn
  obtain ⟨A2, c2, he, hs⟩ := Sl.of_own (ok := Any) h.row (fun _ _ _ => trivial)
  injection he with e1 e2 e3
  subst e1; subst e3
  exact (vmruns_ok W ctx A c xs hs h.im cx CA cc hcx B ca ans hans hav).mono fun e w' ⟨h1, h2⟩ => ⟨h1, h.b.trans (h2.mono h.b.size)⟩
theorem PB.runsx {w : World} {g n : Nat} {ctx : Int} {A : Option Addr} {c : Nat} {xs : List InsZ} {W : World} (h : PB w g ctx (.slice A n c) xs W) (hn : n = xs.length) (cx : List UInt8) (CA : Option Addr) (cc : Nat) (hcx : By W Any CA cx.length cc cx) :
    Calls Try.prog 4 #[.agg #[.int .i64 ctx, .slice A n c], .slice CA cx.length cc, .slice none 0 0] W fun e w' => e = .returned (.bool true) ∧ Below w.heap.size w w' :=
  h.runsn hn cx CA cc hcx none 0 [] (Sl.nil _ _ _) (fun _ h => by cases h)
theorem PB.runsa {w : World} {g n : Nat} {ctx : Int} {A : Option Addr} {c : Nat} {xs : List InsZ} {W : World} (h : PB w g ctx (.slice A n c) xs W) (hn : n = xs.length) (B : Option Addr) (ca : Nat) (ans : List Nat) (hans : Wd W Any B ans.length ca ans) (hav : ∀ v, v ∈ ans → v < 4294967296) :
    Calls Try.prog 4 #[.agg #[.int .i64 ctx, .slice A n c], .slice none 0 0, .slice B ans.length ca] W fun e w' => e = .returned (.bool true) ∧ Below w.heap.size w w' :=
  h.runsn hn [] none 0 (Sl.nil _ _ _) B ca ans hans hav
theorem PB.runsz {w : World} {g n : Nat} {ctx : Int} {A : Option Addr} {c : Nat} {xs : List InsZ} {W : World} (h : PB w g ctx (.slice A n c) xs W) (hn : n = xs.length) :
    Calls Try.prog 4 #[.agg #[.int .i64 ctx, .slice A n c], .slice none 0 0, .slice none 0 0] W fun e w' => e = .returned (.bool true) ∧ Below w.heap.size w w' :=
  h.runsx hn [] none 0 (Sl.nil _ _ _)
theorem addr_next (a : Addr) (n j : Nat) : a.add (n + (j + 1)) = ⟨(a.add n).block, (a.add n).off + (j + 1), none⟩ := by
  rw [← add_add]
  generalize a.add n = b
  simp [Addr.add]
theorem PB.more {w : World} {g : Nat} {ctx : Int} {V V' : Value} {xs : List InsZ} {Y w6 : World} (h : PB w g ctx V xs Y) (ys : List InsZ) {m : Nat} {news : List Value} (hm : m = ys.length) (hn : news = ys.flatMap insZC) (him : ∀ i, i ∈ ys → i.imm < 4294967296)
    (hown : w6.ownsRow w.heap.size 50 5 V' (xs.length + m) (xs.flatMap insZC ++ news)) (hg : Y.grownBy w6 V.ownBlock) (hat : V'.ownBlock = V.ownBlock ∨ V'.ownBlock = some Y.heap.size) :
    PB w g ctx V' (xs ++ ys) (w6.setCell ⟨g, 1, none⟩ V') := by
  subst hm; subst hn
  have hk : Kp (fun b => V.ownBlock = some b) Y w6 := (Kp.refl _ Y).grown hg (fun k hk => .inl hk)
  have hB := h.blk.keep hk h.vg
  have hz := h.gz
  have hvg : V'.ownBlock ≠ some g := fun e => by
    rcases hat with q | q
    · exact h.vg (by rw [← q]; exact e)
    · rw [q] at e
      have : Y.heap.size = g := by injection e
      omega
  have hk2 : Kp (fun b => b = g) w6 (w6.setCell ⟨g, 1, none⟩ V') := (Kp.refl (fun b => b = g) w6).setCell (p := ⟨g, 1, none⟩) (.inl rfl) V'
  have hb6 : Below w.heap.size w w6 := ((Kp.of_below h.b No).trans hk (fun b hb e => by have := (h.row.lt b e).1; omega)).below
  refine ⟨hb6.setCell (by exact h.g1) _, h.g1, by have := hk.size; have := hk2.size; omega, (hB.set 1 V').congr (fun j hj => ?_), ?_, hvg, fun i hi => ?_⟩
  · by_cases e : j = 1
    · subst e; rfl
    · rw [if_neg e]
      have : j = 0 := by omega
      subst this; rfl
  · rw [List.length_append, List.flatMap_append]
    exact own_move hown (fun k hk' hlt => hk2.block k hlt (fun e => hvg (by rw [hk', e])))
  · rcases List.mem_append.1 hi with q | q
    · exact h.im i q
    · exact him i q
/-- What is made is handed to the law of runs. -/
theorem PB.runs {w : World} {g : Nat} {ctx : Int} {A : Option Addr} {c : Nat} {xs : List InsZ} {W : World} (h : PB w g ctx (.slice A xs.length c) xs W) (cx : List UInt8) (CA : Option Addr) (cc : Nat) (hcx : By W Any CA cx.length cc cx) (B : Option Addr) (ca : Nat) (ans : List Nat) (hans : Wd W Any B ans.length ca ans) (hav : ∀ v, v ∈ ans → v < 4294967296) :
    Calls Try.prog 4 #[.agg #[.int .i64 ctx, .slice A xs.length c], .slice CA cx.length cc, .slice B ans.length ca] W fun e w' => e = .returned (.bool true) ∧ Below w.heap.size w w' := by
  obtain ⟨A2, c2, he, hs⟩ := Sl.of_own (ok := Any) h.row (fun _ _ _ => trivial)
  injection he with e1 e2 e3
  subst e1; subst e3
  exact (vmruns_ok W ctx A c xs hs h.im cx CA cc hcx B ca ans hans hav).mono fun e w' ⟨h1, h2⟩ => ⟨h1, h.b.trans (h2.mono h.b.size)⟩
theorem PB.runs0 {w : World} {g : Nat} {ctx : Int} {A : Option Addr} {c : Nat} {xs : List InsZ} {W : World} (h : PB w g ctx (.slice A xs.length c) xs W) :
    Calls Try.prog 4 #[.agg #[.int .i64 ctx, .slice A xs.length c], .slice none 0 0, .slice none 0 0] W fun e w' => e = .returned (.bool true) ∧ Below w.heap.size w w' :=
  h.runs [] none 0 (Sl.nil _ _ _) none 0 [] (Sl.nil _ _ _) (fun _ h => by cases h)
/-- A program that is laid out of a literal. -/
theorem PB.lit {w W : World} (hb : Below w.heap.size w W) (ctx : Int) (xs : List InsZ) (cs : Array Value) (n : Nat) (hn : n = xs.length) (hcs : cs.toList = xs.flatMap insZC) (hm : xs.length ≤ 1000000) (him : ∀ i, i ∈ xs → i.imm < 4294967296) :
    PB w (W.heap.size + 1) ctx (.slice (some ⟨W.heap.size, 0, none⟩) n n) xs ((W.alloc (.cells cs 50)).alloc (.cells #[.int .i64 ctx, .slice (some ⟨W.heap.size, 0, none⟩) n n] 24)) := by
  subst hn
  have hz := hb.size
  have e : (W.alloc (.cells cs 50)).heap.size = W.heap.size + 1 := by simp
  have hb2 : Below (W.alloc (.cells cs 50)).heap.size (W.alloc (.cells cs 50)) ((W.alloc (.cells cs 50)).alloc (.cells #[.int .i64 ctx, .slice (some ⟨W.heap.size, 0, none⟩) xs.length xs.length] 24)) := (Below.refl _ _).alloc (Nat.le_refl _) _
  refine ⟨(hb.alloc hz _).alloc (by simp; omega) _, by omega, by simp, ?_, ?_, by simp [Value.ownBlock], him⟩
  · rw [← e]
    exact Blk.new _ _ _ 2 rfl _ fun j hj => by
      have hc : j = 0 ∨ j = 1 := by omega
      rcases hc with rfl | rfl <;> rfl
  · have hl : cs.size = xs.length * 5 := by rw [← Array.length_toList, hcs, insZ_len]
    have := own_lit W 50 5 cs xs.length (by simp only [maxLen]; omega) hl w.heap.size hz
    rw [hcs] at this
    exact own_move this (fun k _ hlt => hb2.block k hlt)
theorem PB.lit2 {w W : World} {z : Nat} (hz : W.heap.size = z) (hb : Below w.heap.size w W) (ctx : Int) (xs : List InsZ) (cs : Array Value) (n : Nat) (hn : n = xs.length) (hcs : cs.toList = xs.flatMap insZC) (hm : xs.length ≤ 1000000) (him : ∀ i, i ∈ xs → i.imm < 4294967296) :
    PB w (z + 1) ctx (.slice (some ⟨z, 0, none⟩) n n) xs ((W.alloc (.cells cs 50)).alloc (.cells #[.int .i64 ctx, .slice (some ⟨z, 0, none⟩) n n] 24)) := by
  subst hz
  exact PB.lit hb ctx xs cs n hn hcs hm him
theorem PB.litruns {w W : World} {z : Nat} (hz : W.heap.size = z) (hb : Below w.heap.size w W) (ctx : Int) (xs : List InsZ) (cs : Array Value) (n : Nat) (hn : n = xs.length) (hcs : cs.toList = xs.flatMap insZC) (hm : xs.length ≤ 1000000) (him : ∀ i, i ∈ xs → i.imm < 4294967296) :
    Calls Try.prog 4 #[.agg #[.int .i64 ctx, .slice (some ⟨z, 0, none⟩) n n], .slice none 0 0, .slice none 0 0] ((W.alloc (.cells cs 50)).alloc (.cells #[.int .i64 ctx, .slice (some ⟨z, 0, none⟩) n n] 24)) fun e w' => e = .returned (.bool true) ∧ Below w.heap.size w w' := by
  have := PB.lit2 hz hb ctx xs cs n hn hcs hm him
  subst hn
  exact this.runs0
theorem mayr_lit (W : World) (op dst src off : Int) (imm : Nat) (hi : imm < 4294967296) : Calls Try.prog 19 #[.agg #[.int .i64 op, .int .i64 dst, .int .i64 src, .int .i64 off, .int .u32 (imm : Int)]] W fun e w' => e = .returned (.bool (mayB ⟨op, dst, src, off, imm⟩)) ∧ Below W.heap.size W w' := mayr_any W ⟨op, dst, src, off, imm⟩ hi

/-! ### more of a law's arguments, opened -/
section
open Go.ChangeShapes Go.WideShapes Go.ChangeAt Go.Deep
set_option maxRecDepth 100000
theorem okWide_arrs {P : Program} {w : World} {r : Reach} {b0 : Nat} {t e : TypeId} {n : Nat} {v : Value} (ht : P.underlying t = some (.array n e)) (h : Value.okWide P w r b0 t v) : ∃ cs : Array Value, v = .agg cs ∧ cs.size = P.cellsOf t := by
  simp only [Value.okWide, ht] at h
  obtain ⟨cs, h1, h2, _⟩ := h
  exact ⟨cs, h1, h2⟩
theorem ins_in {H : Type} {enc : TypeId × Value → H} {W : World} {v : Value} {d : DataW H} {p : List MemPlace} (hv : Value.okWide Try.prog W .any 0 50 v) (h : DataW.Trod enc Try.prog W 0 (fun _ => true) true 50 v d p) :
    ∃ i : InsZ, v = insZV i ∧ i.imm < 4294967296 := by
  obtain ⟨cs, rfl, hsz⟩ := okWide_struct Try.underlying50 hv
  have hC : Try.prog.cellsOf 50 = 5 := by kernel_rfl
  obtain ⟨fuel, hf⟩ := h
  obtain ⟨i, hi, hm⟩ := ins_cell (by simp [Value.cells]; omega) hf
  refine ⟨i, ?_, hm⟩
  have : cs.toList = insZC i := hi
  unfold insZV
  congr 1
  apply Array.toList_inj.1
  rw [this]; rfl
theorem word_cell {H : Type} {enc : TypeId × Value → H} {W : World} {held : Bool} {fuel : Nat} {v : Value} {x : DataW H × List MemPlace} (h : DataW.trod enc Try.prog W 0 (fun _ => true) held fuel 30 [v] = some x) : ∃ a : Nat, v = .int .u32 (a : Int) ∧ a < 4294967296 := by
  obtain ⟨a, e, _, wa⟩ := DataW.trod_int Try.underlying30 h
  simp at e
  subst e
  have hw := wf_u32 wa
  obtain ⟨m, rfl⟩ := Int.eq_ofNat_of_zero_le hw.1
  exact ⟨m, rfl, by omega⟩
def pairC (x : Nat × Nat) : List Value := [.int .u32 (x.1 : Int), .int .u32 (x.2 : Int)]
def tripC (x : Nat × Nat × Nat) : List Value := [.int .u32 (x.1 : Int), .int .u32 (x.2.1 : Int), .int .u32 (x.2.2 : Int)]
theorem pair_cell {H : Type} {enc : TypeId × Value → H} {W : World} {held : Bool} {fuel : Nat} {cs : List Value} {x : DataW H × List MemPlace} (hl : cs.length = 2) (h : DataW.trod enc Try.prog W 0 (fun _ => true) held fuel 54 cs = some x) :
    ∃ y : Nat × Nat, cs = pairC y ∧ y.1 < 4294967296 ∧ y.2 < 4294967296 := by
  match cs, hl with
  | [v0, v1], _ =>
    obtain ⟨xs, m, _, _, _, hx, hi⟩ := DataW.trod_array Try.underlying54 h
    have hC : Try.prog.cellsOf 30 = 1 := by kernel_rfl
    have f0 := hi 0 (by omega)
    have f1 := hi 1 (by omega)
    rw [hC] at f0 f1
    rw [List.getElem?_eq_getElem (by omega)] at f0 f1
    obtain ⟨a, rfl, ha⟩ := word_cell f0
    obtain ⟨b, rfl, hb⟩ := word_cell f1
    exact ⟨(a, b), rfl, ha, hb⟩
theorem trip_cell {H : Type} {enc : TypeId × Value → H} {W : World} {held : Bool} {fuel : Nat} {cs : List Value} {x : DataW H × List MemPlace} (hl : cs.length = 3) (h : DataW.trod enc Try.prog W 0 (fun _ => true) held fuel 59 cs = some x) :
    ∃ y : Nat × Nat × Nat, cs = tripC y ∧ y.1 < 4294967296 ∧ y.2.1 < 4294967296 ∧ y.2.2 < 4294967296 := by
  match cs, hl with
  | [v0, v1, v2], _ =>
    obtain ⟨xs, m, _, _, _, hx, hi⟩ := DataW.trod_array Try.underlying59 h
    have hC : Try.prog.cellsOf 30 = 1 := by kernel_rfl
    have f0 := hi 0 (by omega)
    have f1 := hi 1 (by omega)
    have f2 := hi 2 (by omega)
    rw [hC] at f0 f1 f2
    rw [List.getElem?_eq_getElem (by omega)] at f0 f1 f2
    obtain ⟨a, rfl, ha⟩ := word_cell f0
    obtain ⟨b, rfl, hb⟩ := word_cell f1
    obtain ⟨c, rfl, hc⟩ := word_cell f2
    exact ⟨(a, b, c), rfl, ha, hb, hc⟩
theorem two_in {H : Type} {enc : TypeId × Value → H} {W : World} {v : Value} {d : DataW H} {p : List MemPlace} (hv : Value.okWide Try.prog W .any 0 54 v) (h : DataW.Trod enc Try.prog W 0 (fun _ => true) true 54 v d p) :
    ∃ a b : Nat, v = .agg #[.int .u32 (a : Int), .int .u32 (b : Int)] ∧ a < 4294967296 ∧ b < 4294967296 := by
  obtain ⟨cs, rfl, hsz⟩ := okWide_arrs Try.underlying54 hv
  have hC : Try.prog.cellsOf 54 = 2 := by kernel_rfl
  obtain ⟨fuel, hf⟩ := h
  obtain ⟨y, hy, h1, h2⟩ := pair_cell (by simp [Value.cells]; omega) hf
  refine ⟨y.1, y.2, ?_, h1, h2⟩
  congr 1
  apply Array.toList_inj.1
  have : cs.toList = pairC y := hy
  rw [this]; rfl
theorem rows_bld {α : Type} {C : Nat → Value → Prop} {G : α → Prop} (sz : Nat) (f : α → List Value) (hf : ∀ x, (f x).length = sz) : ∀ len, (∀ i, i < len → ∃ x : α, G x ∧ ∀ j u, (f x)[j]? = some u → C (i * sz + j) u) →
    ∃ xs : List α, xs.length = len ∧ (∀ i, i ∈ xs → G i) ∧ (xs.flatMap f).length = len * sz ∧ ∀ j u, (xs.flatMap f)[j]? = some u → C j u
  | 0, _ => ⟨[], rfl, fun _ h => by simp at h, by simp, fun j u h => by simp at h⟩
  | len + 1, h => by
    obtain ⟨xs, h1, h2, hl, h3⟩ := rows_bld sz f hf len (fun i hi => h i (by omega))
    obtain ⟨x, k1, k3⟩ := h len (by omega)
    refine ⟨xs ++ [x], by simp [h1], fun i hi => ?_, ?_, fun j u hu => ?_⟩
    · rcases List.mem_append.1 hi with h | h
      · exact h2 i h
      · rw [List.mem_singleton.1 h]; exact k1
    · rw [List.flatMap_append, List.flatMap_singleton, List.length_append, hl, hf, Nat.succ_mul]
    · rw [List.flatMap_append, List.flatMap_singleton] at hu
      by_cases hj : j < (xs.flatMap f).length
      · rw [List.getElem?_append_left hj] at hu
        exact h3 j u hu
      · rw [List.getElem?_append_right (by omega)] at hu
        have := k3 _ u hu
        rw [hl] at this
        rwa [show len * sz + (j - len * sz) = j from by rw [hl] at hj; omega] at this
theorem slice_bld {α : Type} {W : World} {a : Addr} {len cap : Nat} {G : α → Prop} (sz : Nat) (hsz : 0 < sz) (f : α → List Value) (hf : ∀ x, (f x).length = sz) (hl : len ≤ cap) (hm : cap ≤ maxLen)
    (h : ∀ i, i < len → ∃ x : α, G x ∧ ∀ j u, (f x)[j]? = some u → W.cell? (a.add (i * sz + j)) = some u) :
    ∃ xs : List α, xs.length = len ∧ (∀ i, i ∈ xs → G i) ∧ Sl W Any sz (some a) len cap (xs.flatMap f) := by
  obtain ⟨xs, h1, h2, h3, h4⟩ := rows_bld (C := fun j u => W.cell? (a.add j) = some u) sz f hf len h
  refine ⟨xs, h1, h2, h3, hl, hm, fun h => (by cases h), fun a' ha hn => ?_⟩
  injection ha with ha
  subst ha
  refine ⟨trivial, ?_, h4⟩
  have hc0 : 0 < (xs.flatMap f).length := by rw [h3]; exact Nat.mul_pos hn hsz
  have := World.block_lt_of_cell? W _ (h4 0 _ (List.getElem?_eq_getElem hc0))
  rwa [add_block] at this
theorem pairs_in {H : Type} {enc : TypeId × Value → H} {W : World} {v : Value} {d : DataW H} {p : List MemPlace} (hv : Value.okWide Try.prog W .any 0 53 v) (h : DataW.Trod enc Try.prog W 0 (fun _ => true) true 53 v d p) :
    ∃ (A : Option Addr) (l : List (Nat × Nat)) (c : Nat), v = .slice A l.length c ∧ Sl W Any 2 A l.length c (l.flatMap pairC) ∧ ∀ y, y ∈ l → y.1 < 4294967296 ∧ y.2 < 4294967296 := by
  obtain ⟨a0, len0, cap0, rfl⟩ := okWide_slice Try.underlying53 hv
  obtain ⟨fuel, hf⟩ := h
  have hC : Try.prog.cellsOf 54 = 2 := by kernel_rfl
  rcases Deep.open_slice Try.underlying53 hf with ⟨hcs, _⟩ | ⟨a, len, cap, m, n, D, Pl, hcs, _, hl, hm, hmm, _, hi⟩
  · simp [Value.cells] at hcs
    obtain ⟨rfl, rfl, rfl⟩ := hcs
    exact ⟨none, [], 0, rfl, Sl.nil _ _ _, fun _ h => by simp at h⟩
  · simp [Value.cells] at hcs
    obtain ⟨rfl, rfl, rfl⟩ := hcs
    have hlm : len0 ≤ m := by split at hmm <;> omega
    rw [hC] at hi
    obtain ⟨xs, h1, h2, h3⟩ := slice_bld (W := W) (a := a) (G := fun y : Nat × Nat => y.1 < 4294967296 ∧ y.2 < 4294967296) 2 (by omega) pairC (fun _ => rfl) hl hm (fun i hil => by
      obtain ⟨cs', hc, ht⟩ := hi i (by omega)
      obtain ⟨_, hcl, hat⟩ := World.cells?_some hc
      obtain ⟨x, rfl, hx⟩ := pair_cell hcl ht
      refine ⟨x, hx, fun j u hu => ?_⟩
      have hj : j < 2 := by have := (List.getElem?_eq_some_iff.1 hu).1; simp [pairC] at this; omega
      rw [← Go.Deep.add_add, hat j hj, hu])
    exact ⟨some a, xs, cap0, by rw [h1], by rw [h1]; exact h3, h2⟩
theorem triples_in {H : Type} {enc : TypeId × Value → H} {W : World} {v : Value} {d : DataW H} {p : List MemPlace} (hv : Value.okWide Try.prog W .any 0 58 v) (h : DataW.Trod enc Try.prog W 0 (fun _ => true) true 58 v d p) :
    ∃ (A : Option Addr) (l : List (Nat × Nat × Nat)) (c : Nat), v = .slice A l.length c ∧ Sl W Any 3 A l.length c (l.flatMap tripC) ∧ ∀ y, y ∈ l → y.1 < 4294967296 ∧ y.2.1 < 4294967296 ∧ y.2.2 < 4294967296 := by
  obtain ⟨a0, len0, cap0, rfl⟩ := okWide_slice Try.underlying58 hv
  obtain ⟨fuel, hf⟩ := h
  have hC : Try.prog.cellsOf 59 = 3 := by kernel_rfl
  rcases Deep.open_slice Try.underlying58 hf with ⟨hcs, _⟩ | ⟨a, len, cap, m, n, D, Pl, hcs, _, hl, hm, hmm, _, hi⟩
  · simp [Value.cells] at hcs
    obtain ⟨rfl, rfl, rfl⟩ := hcs
    exact ⟨none, [], 0, rfl, Sl.nil _ _ _, fun _ h => by simp at h⟩
  · simp [Value.cells] at hcs
    obtain ⟨rfl, rfl, rfl⟩ := hcs
    have hlm : len0 ≤ m := by split at hmm <;> omega
    rw [hC] at hi
    obtain ⟨xs, h1, h2, h3⟩ := slice_bld (W := W) (a := a) (G := fun y : Nat × Nat × Nat => y.1 < 4294967296 ∧ y.2.1 < 4294967296 ∧ y.2.2 < 4294967296) 3 (by omega) tripC (fun _ => rfl) hl hm (fun i hil => by
      obtain ⟨cs', hc, ht⟩ := hi i (by omega)
      obtain ⟨_, hcl, hat⟩ := World.cells?_some hc
      obtain ⟨x, rfl, hx⟩ := trip_cell hcl ht
      refine ⟨x, hx, fun j u hu => ?_⟩
      have hj : j < 3 := by have := (List.getElem?_eq_some_iff.1 hu).1; simp [tripC] at this; omega
      rw [← Go.Deep.add_add, hat j hj, hu])
    exact ⟨some a, xs, cap0, by rw [h1], by rw [h1]; exact h3, h2⟩
theorem bools_in {H : Type} {enc : TypeId × Value → H} {W : World} {v : Value} {d : DataW H} {p : List MemPlace} (hv : Value.okWide Try.prog W .any 0 56 v) (h : DataW.Trod enc Try.prog W 0 (fun _ => true) true 56 v d p) :
    ∃ (A : Option Addr) (l : List Bool) (c : Nat), v = .slice A l.length c ∧ Sl W Any 1 A l.length c (l.flatMap fun b => [Value.bool b]) := by
  obtain ⟨a0, len0, cap0, rfl⟩ := okWide_slice Try.underlying56 hv
  obtain ⟨fuel, hf⟩ := h
  rcases Deep.open_bools Try.underlying56 Try.underlying4 (by kernel_rfl) hf with ⟨hcs, _⟩ | ⟨a, len, cap, B, hcs, _, hl, hm, _, hi⟩
  · simp [Value.cells] at hcs
    obtain ⟨rfl, rfl, rfl⟩ := hcs
    exact ⟨none, [], 0, rfl, Sl.nil _ _ _⟩
  · simp [Value.cells] at hcs
    obtain ⟨rfl, rfl, rfl⟩ := hcs
    obtain ⟨xs, h1, h2, h3⟩ := slice_bld (W := W) (a := a) (G := fun _ : Bool => True) 1 (by omega) (fun b => [Value.bool b]) (fun _ => rfl) hl hm (fun i hil => ⟨B i, trivial, fun j u hu => by
      cases j with
      | zero => simp at hu; subst hu; rw [Nat.mul_one, Nat.add_zero]; exact hi i (by omega)
      | succ j => simp at hu⟩)
    exact ⟨some a, xs, cap0, by rw [h1], by rw [h1]; exact h3⟩
theorem twos_in {H : Type} {enc : TypeId × Value → H} {W : World} {v : Value} {d : DataW H} {p : List MemPlace} (hv : Value.okWide Try.prog W .any 0 27 v) (h : DataW.Trod enc Try.prog W 0 (fun _ => true) true 27 v d p) :
    ∃ (A : Option Addr) (l : List Nat) (c : Nat) (B : Option Addr) (k : List Nat) (e : Nat), v = .agg #[.slice A l.length c, .slice B k.length e] ∧ Wd W Any A l.length c l ∧ (∀ v, v ∈ l → v < 4294967296) ∧ Wd W Any B k.length e k ∧ ∀ v, v ∈ k → v < 4294967296 := by
  obtain ⟨cs, rfl, hsz⟩ := okWide_arrs Try.underlying27 hv
  have hC2 : Try.prog.cellsOf 27 = 2 := by kernel_rfl
  have hC : Try.prog.cellsOf 26 = 1 := by kernel_rfl
  obtain ⟨fuel, hf⟩ := h
  obtain ⟨v0, v1, rfl⟩ : ∃ v0 v1, cs = #[v0, v1] := by
    have h2 : cs.toList.length = 2 := by rw [Array.length_toList]; omega
    match hh : cs.toList, h2 with
    | [v0, v1], _ => exact ⟨v0, v1, Array.toList_inj.1 (by rw [hh])⟩
  obtain ⟨xs, m, _, _, _, hx, hi⟩ := DataW.trod_array Try.underlying27 hf
  have f0 := hi 0 (by omega)
  have f1 := hi 1 (by omega)
  rw [hC] at f0 f1
  rw [List.getElem?_eq_getElem (by omega)] at f0 f1
  obtain ⟨A, l, c, rfl, h1, h2⟩ := words_cell f0
  obtain ⟨B, k, e, rfl, h3, h4⟩ := words_cell f1
  exact ⟨A, l, c, B, k, e, rfl, h1, h2, h3, h4⟩
end
end Go.Proofs.Ytpnkbpjhbmacaaa
