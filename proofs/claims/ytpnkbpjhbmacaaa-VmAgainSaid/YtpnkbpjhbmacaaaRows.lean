/-
  No cell of these rows narrows 'for every input' (looked for: loops, veiled, ifaces, maps, wideKeys, modest, calm, conditions, laid).
  DERIVED. THE GIVEN ROWS OF THIS SEAT. 9 by the template 'for every input the law returns true; each argument reads behind the call as it read before'; 0 by the template 'total and deterministic' (their statements: YtpnkbpjhbmacaaaTotals.lean).
  GIVEN WITH THE SEED: the statements are not yours to turn. If you find one false, say at which input.
  Laid BY PROGRAM, IN A SANDBOX (cutbox-rows.mjs): the forced cells as the released guide's own fill.sh prints them over the translation 1dec0951dab131c2… (all of the seat's roots in one cut). By AI agents, Wed Nov 11 2026. No macro, syntax, notation, axiom, sorry.
-/
import Derived.Test.YtpnkbpjhbmacaaaChecked
import GoSem.Claim
import GoSem.ClaimJoined
import GoSem.ClaimMapViews
import Derived.JoinedTies
import Derived.KernelRfl
namespace Go.Proofs.Ytpnkbpjhbmacaaa
/- THE CELL 'sum', in the pinned program and in every row, IS THE sha256 OF THE DUMP (.gsa) THAT YtpnkbpjhbmacaaaProg.lean LOADS. Nothing in Lean hashes anything: it is a label: what it is worth is what the hold of that sum in a sandbox is worth. -/
noncomputable def Try.pinned : Pinned := { name := "ytpnkbpjhbmacaaa", sum := "1dec0951dab131c234d7551d245310b915cfbc41f4f4f24aa295263791b815e2", checked := Try.checked }
namespace Rows
def none {H : Type} : Left H := { results := [], args := [] }

/-- 'cachetlaw07.VmAgain': WHATEVER THE INPUT: true; the input reads as it did. -/
def vmAgainSpec : ChangeSpec := { name := "vmAgain", fn := fun _ => fun
  | [d1, d2, d3] => { results := [.lit (.bool true)], args := [d1, d2, d3] }
  | _ => none }
def vmAgainRow : OpenClaim := { program := "ytpnkbpjhbmacaaa", sum := "1dec0951dab131c234d7551d245310b915cfbc41f4f4f24aa295263791b815e2", func := "cachet/cachetlaw07.VmAgain", spec := "vmAgain", unfollowed := true, recurses := true, apart := false }
def VmAgainSaid : Prop := vmAgainRow.holds Try.pinned (OpenSpec.ofChange vmAgainSpec)

/-- ITS FALSE NEIGHBOUR: 'it returns false'. Refute it at one input. -/
def vmAgainWrong : ChangeSpec := { name := "vmAgain", fn := fun _ => fun
  | [d1, d2, d3] => { results := [.lit (.bool false)], args := [d1, d2, d3] }
  | _ => none }
def VmAgainWrongFalsely : Prop := vmAgainRow.holds Try.pinned (OpenSpec.ofChange vmAgainWrong)

/-- 'cachetlaw07.VmRuns': WHATEVER THE INPUT: true; the input reads as it did. -/
def vmRunsSpec : ChangeSpec := { name := "vmRuns", fn := fun _ => fun
  | [d1, d2, d3] => { results := [.lit (.bool true)], args := [d1, d2, d3] }
  | _ => none }
def vmRunsRow : OpenClaim := { program := "ytpnkbpjhbmacaaa", sum := "1dec0951dab131c234d7551d245310b915cfbc41f4f4f24aa295263791b815e2", func := "cachet/cachetlaw07.VmRuns", spec := "vmRuns", unfollowed := true, recurses := true, apart := false }
def VmRunsSaid : Prop := vmRunsRow.holds Try.pinned (OpenSpec.ofChange vmRunsSpec)

/-- ITS FALSE NEIGHBOUR: 'it returns false'. Refute it at one input. -/
def vmRunsWrong : ChangeSpec := { name := "vmRuns", fn := fun _ => fun
  | [d1, d2, d3] => { results := [.lit (.bool false)], args := [d1, d2, d3] }
  | _ => none }
def VmRunsWrongFalsely : Prop := vmRunsRow.holds Try.pinned (OpenSpec.ofChange vmRunsWrong)

/-- 'cachetlaw07.VmTwo': WHATEVER THE INPUT: true; the input reads as it did. -/
def vmTwoSpec : ChangeSpec := { name := "vmTwo", fn := fun _ => fun
  | [d1, d2, d3] => { results := [.lit (.bool true)], args := [d1, d2, d3] }
  | _ => none }
def vmTwoRow : OpenClaim := { program := "ytpnkbpjhbmacaaa", sum := "1dec0951dab131c234d7551d245310b915cfbc41f4f4f24aa295263791b815e2", func := "cachet/cachetlaw07.VmTwo", spec := "vmTwo", unfollowed := true, recurses := true, apart := false }
def VmTwoSaid : Prop := vmTwoRow.holds Try.pinned (OpenSpec.ofChange vmTwoSpec)

/-- ITS FALSE NEIGHBOUR: 'it returns false'. Refute it at one input. -/
def vmTwoWrong : ChangeSpec := { name := "vmTwo", fn := fun _ => fun
  | [d1, d2, d3] => { results := [.lit (.bool false)], args := [d1, d2, d3] }
  | _ => none }
def VmTwoWrongFalsely : Prop := vmTwoRow.holds Try.pinned (OpenSpec.ofChange vmTwoWrong)

/-- 'cachetlaw07.VmMemory': WHATEVER THE INPUT: true; the input reads as it did. -/
def vmMemorySpec : ChangeSpec := { name := "vmMemory", fn := fun _ => fun
  | [d1, d2, d3] => { results := [.lit (.bool true)], args := [d1, d2, d3] }
  | _ => none }
def vmMemoryRow : OpenClaim := { program := "ytpnkbpjhbmacaaa", sum := "1dec0951dab131c234d7551d245310b915cfbc41f4f4f24aa295263791b815e2", func := "cachet/cachetlaw07.VmMemory", spec := "vmMemory", unfollowed := true, recurses := true, apart := false }
def VmMemorySaid : Prop := vmMemoryRow.holds Try.pinned (OpenSpec.ofChange vmMemorySpec)

/-- ITS FALSE NEIGHBOUR: 'it returns false'. Refute it at one input. -/
def vmMemoryWrong : ChangeSpec := { name := "vmMemory", fn := fun _ => fun
  | [d1, d2, d3] => { results := [.lit (.bool false)], args := [d1, d2, d3] }
  | _ => none }
def VmMemoryWrongFalsely : Prop := vmMemoryRow.holds Try.pinned (OpenSpec.ofChange vmMemoryWrong)

/-- 'cachetlaw07.VmCalls': WHATEVER THE INPUT: true; the input reads as it did. -/
def vmCallsSpec : ChangeSpec := { name := "vmCalls", fn := fun _ => fun
  | [d1, d2, d3] => { results := [.lit (.bool true)], args := [d1, d2, d3] }
  | _ => none }
def vmCallsRow : OpenClaim := { program := "ytpnkbpjhbmacaaa", sum := "1dec0951dab131c234d7551d245310b915cfbc41f4f4f24aa295263791b815e2", func := "cachet/cachetlaw07.VmCalls", spec := "vmCalls", unfollowed := true, recurses := true, apart := false }
def VmCallsSaid : Prop := vmCallsRow.holds Try.pinned (OpenSpec.ofChange vmCallsSpec)

/-- ITS FALSE NEIGHBOUR: 'it returns false'. Refute it at one input. -/
def vmCallsWrong : ChangeSpec := { name := "vmCalls", fn := fun _ => fun
  | [d1, d2, d3] => { results := [.lit (.bool false)], args := [d1, d2, d3] }
  | _ => none }
def VmCallsWrongFalsely : Prop := vmCallsRow.holds Try.pinned (OpenSpec.ofChange vmCallsWrong)

/-- 'cachetlaw07.VmJumps': WHATEVER THE INPUT: true; the input reads as it did. -/
def vmJumpsSpec : ChangeSpec := { name := "vmJumps", fn := fun _ => fun
  | [d1, d2] => { results := [.lit (.bool true)], args := [d1, d2] }
  | _ => none }
def vmJumpsRow : OpenClaim := { program := "ytpnkbpjhbmacaaa", sum := "1dec0951dab131c234d7551d245310b915cfbc41f4f4f24aa295263791b815e2", func := "cachet/cachetlaw07.VmJumps", spec := "vmJumps", unfollowed := true, recurses := true, apart := false }
def VmJumpsSaid : Prop := vmJumpsRow.holds Try.pinned (OpenSpec.ofChange vmJumpsSpec)

/-- ITS FALSE NEIGHBOUR: 'it returns false'. Refute it at one input. -/
def vmJumpsWrong : ChangeSpec := { name := "vmJumps", fn := fun _ => fun
  | [d1, d2] => { results := [.lit (.bool false)], args := [d1, d2] }
  | _ => none }
def VmJumpsWrongFalsely : Prop := vmJumpsRow.holds Try.pinned (OpenSpec.ofChange vmJumpsWrong)

/-- 'cachetlaw07.VmFaults': WHATEVER THE INPUT: true; the input reads as it did. -/
def vmFaultsSpec : ChangeSpec := { name := "vmFaults", fn := fun _ => fun
  | [d1, d2, d3] => { results := [.lit (.bool true)], args := [d1, d2, d3] }
  | _ => none }
def vmFaultsRow : OpenClaim := { program := "ytpnkbpjhbmacaaa", sum := "1dec0951dab131c234d7551d245310b915cfbc41f4f4f24aa295263791b815e2", func := "cachet/cachetlaw07.VmFaults", spec := "vmFaults", unfollowed := true, recurses := true, apart := false }
def VmFaultsSaid : Prop := vmFaultsRow.holds Try.pinned (OpenSpec.ofChange vmFaultsSpec)

/-- ITS FALSE NEIGHBOUR: 'it returns false'. Refute it at one input. -/
def vmFaultsWrong : ChangeSpec := { name := "vmFaults", fn := fun _ => fun
  | [d1, d2, d3] => { results := [.lit (.bool false)], args := [d1, d2, d3] }
  | _ => none }
def VmFaultsWrongFalsely : Prop := vmFaultsRow.holds Try.pinned (OpenSpec.ofChange vmFaultsWrong)

/-- 'cachetlaw07.VmLong': WHATEVER THE INPUT: true; the input reads as it did. -/
def vmLongSpec : ChangeSpec := { name := "vmLong", fn := fun _ => fun
  | [d1, d2, d3] => { results := [.lit (.bool true)], args := [d1, d2, d3] }
  | _ => none }
def vmLongRow : OpenClaim := { program := "ytpnkbpjhbmacaaa", sum := "1dec0951dab131c234d7551d245310b915cfbc41f4f4f24aa295263791b815e2", func := "cachet/cachetlaw07.VmLong", spec := "vmLong", unfollowed := true, recurses := true, apart := false }
def VmLongSaid : Prop := vmLongRow.holds Try.pinned (OpenSpec.ofChange vmLongSpec)

/-- ITS FALSE NEIGHBOUR: 'it returns false'. Refute it at one input. -/
def vmLongWrong : ChangeSpec := { name := "vmLong", fn := fun _ => fun
  | [d1, d2, d3] => { results := [.lit (.bool false)], args := [d1, d2, d3] }
  | _ => none }
def VmLongWrongFalsely : Prop := vmLongRow.holds Try.pinned (OpenSpec.ofChange vmLongWrong)

/-- 'cachetlaw07.VmSound': WHATEVER THE INPUT: true; the input reads as it did. -/
def vmSoundSpec : ChangeSpec := { name := "vmSound", fn := fun _ => fun
  | [d1, d2, d3] => { results := [.lit (.bool true)], args := [d1, d2, d3] }
  | _ => none }
def vmSoundRow : OpenClaim := { program := "ytpnkbpjhbmacaaa", sum := "1dec0951dab131c234d7551d245310b915cfbc41f4f4f24aa295263791b815e2", func := "cachet/cachetlaw07.VmSound", spec := "vmSound", unfollowed := true, recurses := true, apart := false }
def VmSoundSaid : Prop := vmSoundRow.holds Try.pinned (OpenSpec.ofChange vmSoundSpec)

/-- ITS FALSE NEIGHBOUR: 'it returns false'. Refute it at one input. -/
def vmSoundWrong : ChangeSpec := { name := "vmSound", fn := fun _ => fun
  | [d1, d2, d3] => { results := [.lit (.bool false)], args := [d1, d2, d3] }
  | _ => none }
def VmSoundWrongFalsely : Prop := vmSoundRow.holds Try.pinned (OpenSpec.ofChange vmSoundWrong)

/- THE SECOND FORM. 'bulk': how many values and letters a reading holds, each counted each time it is reached (what is shared counts as often as it is met; a slice's spare places count too). A statement '..UptoSaid' is the law's where the arguments, and the package variables that the reading takes, are together of bulk at most 1048576: NARROWER than '..Said'. Prove '..Said' where nothing that the law and all that it calls make is longer than what came in: it says more and counts as full. Else prove '..UptoSaid'. A law counts once. -/
mutual
def uptoBulk {H : Type} : DataW H → Nat
  | .lit (.string bytes) => bytes.length + 1
  | .lit _ => 1
  | .nil => 1
  | .ptr d => uptoBulk d + 1
  | .slice elems spare => uptoBulkAll elems + uptoBulkAll spare + 1
  | .agg parts => uptoBulkAll parts + 1
  | .iface _ d => uptoBulk d + 1
  | .map entries => uptoBulkEntries entries + 1
  | .held _ => 1
def uptoBulkAll {H : Type} : List (DataW H) → Nat
  | [] => 0
  | d :: r => uptoBulk d + uptoBulkAll r
def uptoBulkEntries {H : Type} : List (Lit × DataW H) → Nat
  | [] => 0
  | x :: r => uptoBulkEntry x + uptoBulkEntries r
def uptoBulkEntry {H : Type} : Lit × DataW H → Nat
  | (.string bytes, d) => bytes.length + uptoBulk d + 1
  | (_, d) => uptoBulk d + 1
 end
def uptoSmall : (H : Type) → List (DataW H) → Bool := fun _ ds => decide (uptoBulkAll ds ≤ 1048576)
def OpenSpec.upto (s : _root_.Go.ChangeSpec) : _root_.Go.OpenSpec := { _root_.Go.OpenSpec.ofChange s with cond := some uptoSmall }

/-- 'cachetlaw07.VmAgain', WHERE WHAT IT READS IS OF BULK AT MOST 1048576: true; the input reads as it did. -/
def vmAgainUptoRow : OpenClaim := { program := "ytpnkbpjhbmacaaa", sum := "1dec0951dab131c234d7551d245310b915cfbc41f4f4f24aa295263791b815e2", func := "cachet/cachetlaw07.VmAgain", spec := "vmAgain", unfollowed := true, recurses := true, apart := false, narrowed := true }
def VmAgainUptoSaid : Prop := vmAgainUptoRow.holds Try.pinned (OpenSpec.upto vmAgainSpec)

/-- 'cachetlaw07.VmRuns', WHERE WHAT IT READS IS OF BULK AT MOST 1048576: true; the input reads as it did. -/
def vmRunsUptoRow : OpenClaim := { program := "ytpnkbpjhbmacaaa", sum := "1dec0951dab131c234d7551d245310b915cfbc41f4f4f24aa295263791b815e2", func := "cachet/cachetlaw07.VmRuns", spec := "vmRuns", unfollowed := true, recurses := true, apart := false, narrowed := true }
def VmRunsUptoSaid : Prop := vmRunsUptoRow.holds Try.pinned (OpenSpec.upto vmRunsSpec)

/-- 'cachetlaw07.VmTwo', WHERE WHAT IT READS IS OF BULK AT MOST 1048576: true; the input reads as it did. -/
def vmTwoUptoRow : OpenClaim := { program := "ytpnkbpjhbmacaaa", sum := "1dec0951dab131c234d7551d245310b915cfbc41f4f4f24aa295263791b815e2", func := "cachet/cachetlaw07.VmTwo", spec := "vmTwo", unfollowed := true, recurses := true, apart := false, narrowed := true }
def VmTwoUptoSaid : Prop := vmTwoUptoRow.holds Try.pinned (OpenSpec.upto vmTwoSpec)

/-- 'cachetlaw07.VmMemory', WHERE WHAT IT READS IS OF BULK AT MOST 1048576: true; the input reads as it did. -/
def vmMemoryUptoRow : OpenClaim := { program := "ytpnkbpjhbmacaaa", sum := "1dec0951dab131c234d7551d245310b915cfbc41f4f4f24aa295263791b815e2", func := "cachet/cachetlaw07.VmMemory", spec := "vmMemory", unfollowed := true, recurses := true, apart := false, narrowed := true }
def VmMemoryUptoSaid : Prop := vmMemoryUptoRow.holds Try.pinned (OpenSpec.upto vmMemorySpec)

/-- 'cachetlaw07.VmCalls', WHERE WHAT IT READS IS OF BULK AT MOST 1048576: true; the input reads as it did. -/
def vmCallsUptoRow : OpenClaim := { program := "ytpnkbpjhbmacaaa", sum := "1dec0951dab131c234d7551d245310b915cfbc41f4f4f24aa295263791b815e2", func := "cachet/cachetlaw07.VmCalls", spec := "vmCalls", unfollowed := true, recurses := true, apart := false, narrowed := true }
def VmCallsUptoSaid : Prop := vmCallsUptoRow.holds Try.pinned (OpenSpec.upto vmCallsSpec)

/-- 'cachetlaw07.VmJumps', WHERE WHAT IT READS IS OF BULK AT MOST 1048576: true; the input reads as it did. -/
def vmJumpsUptoRow : OpenClaim := { program := "ytpnkbpjhbmacaaa", sum := "1dec0951dab131c234d7551d245310b915cfbc41f4f4f24aa295263791b815e2", func := "cachet/cachetlaw07.VmJumps", spec := "vmJumps", unfollowed := true, recurses := true, apart := false, narrowed := true }
def VmJumpsUptoSaid : Prop := vmJumpsUptoRow.holds Try.pinned (OpenSpec.upto vmJumpsSpec)

/-- 'cachetlaw07.VmFaults', WHERE WHAT IT READS IS OF BULK AT MOST 1048576: true; the input reads as it did. -/
def vmFaultsUptoRow : OpenClaim := { program := "ytpnkbpjhbmacaaa", sum := "1dec0951dab131c234d7551d245310b915cfbc41f4f4f24aa295263791b815e2", func := "cachet/cachetlaw07.VmFaults", spec := "vmFaults", unfollowed := true, recurses := true, apart := false, narrowed := true }
def VmFaultsUptoSaid : Prop := vmFaultsUptoRow.holds Try.pinned (OpenSpec.upto vmFaultsSpec)

/-- 'cachetlaw07.VmLong', WHERE WHAT IT READS IS OF BULK AT MOST 1048576: true; the input reads as it did. -/
def vmLongUptoRow : OpenClaim := { program := "ytpnkbpjhbmacaaa", sum := "1dec0951dab131c234d7551d245310b915cfbc41f4f4f24aa295263791b815e2", func := "cachet/cachetlaw07.VmLong", spec := "vmLong", unfollowed := true, recurses := true, apart := false, narrowed := true }
def VmLongUptoSaid : Prop := vmLongUptoRow.holds Try.pinned (OpenSpec.upto vmLongSpec)

/-- 'cachetlaw07.VmSound', WHERE WHAT IT READS IS OF BULK AT MOST 1048576: true; the input reads as it did. -/
def vmSoundUptoRow : OpenClaim := { program := "ytpnkbpjhbmacaaa", sum := "1dec0951dab131c234d7551d245310b915cfbc41f4f4f24aa295263791b815e2", func := "cachet/cachetlaw07.VmSound", spec := "vmSound", unfollowed := true, recurses := true, apart := false, narrowed := true }
def VmSoundUptoSaid : Prop := vmSoundUptoRow.holds Try.pinned (OpenSpec.upto vmSoundSpec)

end Rows
end Go.Proofs.Ytpnkbpjhbmacaaa
