/- The VM: any instruction. -/
import Derived.Test.YtpnkbpjhbmacaaaVm5a
import Derived.Test.YtpnkbpjhbmacaaaVm5b
import Derived.Test.YtpnkbpjhbmacaaaVm5c
import Derived.Test.YtpnkbpjhbmacaaaVm5d
import Derived.Test.YtpnkbpjhbmacaaaVm5e
import Derived.Test.YtpnkbpjhbmacaaaVm5f
import Derived.Test.YtpnkbpjhbmacaaaVm5g
set_option linter.unusedVariables false
set_option linter.unusedSimpArgs false
namespace Go.Proofs.Ytpnkbpjhbmacaaa
open Go.RowKit

def insV (i : Ins8) : Value := .agg #[.int .i64 (i.op : Int), .int .i64 (i.dst : Int), .int .i64 (i.src : Int), .int .i64 i.off, .int .u32 (i.imm : Int)]
def doesRes (s : Vm) (i : Ins8) (ctx : List UInt8) (ans : List Nat) : Res :=
  if i.op ≤ 15 then sumRes s i else if i.op = 16 then ldcRes s i ctx else if i.op = 17 then ldsRes s i else if i.op = 18 then stsRes s i else if i.op = 19 then .go s i.off false
  else if i.op = 20 then jeqRes s i else if i.op ≤ 22 then jltRes s i else if i.op = 23 then .go (s.call i.imm ans) 0 false else exitRes s
theorem does_any {w : World} {okc oka : Nat → Prop} {x : Nat} {f : Fx} {K : Value} {s : Vm} (h : VmS w x f K s) (hok : VmOk s) (i : Ins8) (hm : i.May) (CA : Option Addr) (cc : Nat) (ctx : List UInt8) (hC : f.C = .slice CA ctx.length cc) (hcx : By w okc CA ctx.length cc ctx) (hcl : ctx.length ≤ 65536) (hoc : ∀ k, okc k → k ≠ x)
    (A : Option Addr) (ca : Nat) (ans : List Nat) (hA : f.A = .slice A ans.length ca) (hans : Wd w oka A ans.length ca ans) (hoa : ∀ k, oka k → ¬ VmM x K k) (hcl2 : s.calls.length ≤ 1000) (hal : ans.length ≤ 1048576) (hav : ∀ v, v ∈ ans → v < 4294967296) :
    Calls Try.prog 44 #[.pointer (some ⟨x, 0, none⟩), insV i] w (DoesPost w x f K s (doesRes s i ctx ans)) := by
  unfold insV
  by_cases h15 : i.op ≤ 15
  · rw [show doesRes s i ctx ans = sumRes s i from by simp [doesRes, h15]]; exact does_sum h hok i hm h15 CA cc ctx hC hcx hcl hoc
  have h24 := hm.op2
  have hc : i.op = 16 ∨ i.op = 17 ∨ i.op = 18 ∨ i.op = 19 ∨ i.op = 20 ∨ i.op = 21 ∨ i.op = 22 ∨ i.op = 23 ∨ i.op = 24 := by omega
  rcases hc with hop | hop | hop | hop | hop | hop | hop | hop | hop
  · rw [show doesRes s i ctx ans = ldcRes s i ctx from by simp [doesRes, hop], show (i.op : Int) = 16 from by omega]; exact does_ldc h hok i hm hop CA cc ctx hC hcx hcl hoc
  · rw [show doesRes s i ctx ans = ldsRes s i from by simp [doesRes, hop], show (i.op : Int) = 17 from by omega]; exact does_lds h hok i hm hop CA cc ctx hC hcx hcl hoc
  · rw [show doesRes s i ctx ans = stsRes s i from by simp [doesRes, hop], show (i.op : Int) = 18 from by omega]; exact does_sts h hok i hm hop CA cc ctx hC hcx hcl hoc
  · rw [show doesRes s i ctx ans = .go s i.off false from by simp [doesRes, hop], show (i.op : Int) = 19 from by omega]; exact does_ja h hok i hm hop CA cc ctx hC hcx hcl hoc
  · rw [show doesRes s i ctx ans = jeqRes s i from by simp [doesRes, hop], show (i.op : Int) = 20 from by omega]; exact does_jeqi h hok i hm hop CA cc ctx hC hcx hcl hoc
  · rw [show doesRes s i ctx ans = jltRes s i from by simp [doesRes, hop], show (i.op : Int) = 21 from by omega]; exact does_jlti h hok i hm hop CA cc ctx hC hcx hcl hoc
  · rw [show doesRes s i ctx ans = jltRes s i from by simp [doesRes, hop], show (i.op : Int) = 22 from by omega]; exact does_jlt h hok i hm hop CA cc ctx hC hcx hcl hoc
  · rw [show doesRes s i ctx ans = .go (s.call i.imm ans) 0 false from by simp [doesRes, hop], show (i.op : Int) = 23 from by omega]; exact does_call h hok i hm hop CA cc ctx hC hcx hcl hoc A ca ans hA hans hoa hcl2 hal hav
  · rw [show doesRes s i ctx ans = exitRes s from by simp [doesRes, hop], show (i.op : Int) = 24 from by omega]; exact does_exit h hok i hm hop CA cc ctx hC hcx hcl hoc
end Go.Proofs.Ytpnkbpjhbmacaaa
