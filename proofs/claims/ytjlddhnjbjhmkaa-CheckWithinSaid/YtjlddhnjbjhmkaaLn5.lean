/- Layer 6: CheckWithin. -/
import Derived.Test.YtjlddhnjbjhmkaaLn4
set_option linter.unusedVariables false
namespace Go.Proofs.Ytjlddhnjbjhmkaa
open Go.RowKit
theorem checkwithin_ok (w : World) (i : InsZ) (ctx : Int) (k : Kn) (up dn : Nat → Nat) (hi : i.imm < 4294967296) (hcx : -9223372036854775808 ≤ ctx ∧ ctx ≤ 9223372036854775807) (hg : ∀ n, n < 10 → (k.r n).g < 4294967296) (hz : ∀ n, 10 ≤ n → k.r n = rg0) (hup : ∀ n, up n < 4294967296) (hdn : ∀ n, dn n < 4294967296) :
    Calls Try.prog 7 #[.agg #[.int .i64 i.op, .int .i64 i.dst, .int .i64 i.src, .int .i64 i.off, .int .u32 (i.imm : Int)], .int .i64 ctx, .agg (rowF 51 (lsF k up dn)).toArray] w fun e w' => e = .returned (.bool true) ∧ Below w.heap.size w w' := by
  by_cases h : mayB i = false ∨ ctx < 0 ∨ 256 < ctx ∨ rightB k = false ∨ k.come = false
  · exact within_out w i ctx k up dn hi hcx h
  · have hm : mayB i = true := by
      rcases q : mayB i with _ | _
      · exact absurd (.inl q) h
      · rfl
    have hr : rightB k = true := by
      rcases q : rightB k with _ | _
      · exact absurd (.inr (.inr (.inr (.inl q)))) h
      · rfl
    have hc : k.come = true := by
      rcases q : k.come with _ | _
      · exact absurd (.inr (.inr (.inr (.inr q)))) h
      · rfl
    have h0 : ¬ ctx < 0 := fun q => h (.inr (.inl q))
    have h1 : ¬ 256 < ctx := fun q => h (.inr (.inr (.inl q)))
    obtain ⟨cx, rfl⟩ : ∃ cx : Nat, ctx = (cx : Int) := ⟨ctx.toNat, by omega⟩
    obtain ⟨j, rfl⟩ : ∃ j : Ins8, i = j.z := ⟨ofZ i, (ofZ_z hm).symm⟩
    exact within_in w j cx k up dn hi (by omega) hup hdn hm (rightB_right hr hg hz) hr hc
end Go.Proofs.Ytjlddhnjbjhmkaa
