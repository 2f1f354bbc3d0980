/-
  No cell of these rows narrows 'for every input' (looked for: loops, veiled, ifaces, maps, wideKeys, modest, calm, conditions, laid).
  DERIVED. THE GIVEN ROWS OF THIS SEAT. 8 by the template 'for every input the law returns true; each argument reads behind the call as it read before'; 0 by the template 'total and deterministic' (their statements: YtjlddhnjbjhmkaaTotals.lean).
  GIVEN WITH THE SEED: the statements are not yours to turn. If you find one false, say at which input.
  Laid BY PROGRAM, IN A SANDBOX (cutbox-rows.mjs): the forced cells as the released guide's own fill.sh prints them over the translation de7d902cb39d7ccd… (all of the seat's roots in one cut). By AI agents, Wed Nov 11 2026. No macro, syntax, notation, axiom, sorry.
-/
import Derived.Test.YtjlddhnjbjhmkaaChecked
import GoSem.Claim
import GoSem.ClaimJoined
import GoSem.ClaimMapViews
import Derived.JoinedTies
import Derived.KernelRfl
namespace Go.Proofs.Ytjlddhnjbjhmkaa
/- THE CELL 'sum', in the pinned program and in every row, IS THE sha256 OF THE DUMP (.gsa) THAT YtjlddhnjbjhmkaaProg.lean LOADS. Nothing in Lean hashes anything: it is a label: what it is worth is what the hold of that sum in a sandbox is worth. -/
noncomputable def Try.pinned : Pinned := { name := "ytjlddhnjbjhmkaa", sum := "de7d902cb39d7ccd72bc63269558bfcfdede816305be7eb9fcf44fc38f00acf5", checked := Try.checked }
namespace Rows
def none {H : Type} : Left H := { results := [], args := [] }

/-- 'cachetlaw06.CheckKnown': WHATEVER THE INPUT: true; the input reads as it did. -/
def checkKnownSpec : ChangeSpec := { name := "checkKnown", fn := fun _ => fun
  | [d] => { results := [.lit (.bool true)], args := [d] }
  | _ => none }
def checkKnownRow : OpenClaim := { program := "ytjlddhnjbjhmkaa", sum := "de7d902cb39d7ccd72bc63269558bfcfdede816305be7eb9fcf44fc38f00acf5", func := "cachet/cachetlaw06.CheckKnown", spec := "checkKnown", unfollowed := true, recurses := true, apart := false }
def CheckKnownSaid : Prop := checkKnownRow.holds Try.pinned (OpenSpec.ofChange checkKnownSpec)

/-- ITS FALSE NEIGHBOUR: 'it returns false'. Refute it at one input. -/
def checkKnownWrong : ChangeSpec := { name := "checkKnown", fn := fun _ => fun
  | [d] => { results := [.lit (.bool false)], args := [d] }
  | _ => none }
def CheckKnownWrongFalsely : Prop := checkKnownRow.holds Try.pinned (OpenSpec.ofChange checkKnownWrong)

/-- 'cachetlaw06.CheckSums': WHATEVER THE INPUT: true; the input reads as it did. -/
def checkSumsSpec : ChangeSpec := { name := "checkSums", fn := fun _ => fun
  | [d1, d2, d3] => { results := [.lit (.bool true)], args := [d1, d2, d3] }
  | _ => none }
def checkSumsRow : OpenClaim := { program := "ytjlddhnjbjhmkaa", sum := "de7d902cb39d7ccd72bc63269558bfcfdede816305be7eb9fcf44fc38f00acf5", func := "cachet/cachetlaw06.CheckSums", spec := "checkSums", unfollowed := true, recurses := true, apart := false }
def CheckSumsSaid : Prop := checkSumsRow.holds Try.pinned (OpenSpec.ofChange checkSumsSpec)

/-- ITS FALSE NEIGHBOUR: 'it returns false'. Refute it at one input. -/
def checkSumsWrong : ChangeSpec := { name := "checkSums", fn := fun _ => fun
  | [d1, d2, d3] => { results := [.lit (.bool false)], args := [d1, d2, d3] }
  | _ => none }
def CheckSumsWrongFalsely : Prop := checkSumsRow.holds Try.pinned (OpenSpec.ofChange checkSumsWrong)

/-- 'cachetlaw06.CheckJumps': WHATEVER THE INPUT: true; the input reads as it did. -/
def checkJumpsSpec : ChangeSpec := { name := "checkJumps", fn := fun _ => fun
  | [d1, d2, d3] => { results := [.lit (.bool true)], args := [d1, d2, d3] }
  | _ => none }
def checkJumpsRow : OpenClaim := { program := "ytjlddhnjbjhmkaa", sum := "de7d902cb39d7ccd72bc63269558bfcfdede816305be7eb9fcf44fc38f00acf5", func := "cachet/cachetlaw06.CheckJumps", spec := "checkJumps", unfollowed := true, recurses := true, apart := false }
def CheckJumpsSaid : Prop := checkJumpsRow.holds Try.pinned (OpenSpec.ofChange checkJumpsSpec)

/-- ITS FALSE NEIGHBOUR: 'it returns false'. Refute it at one input. -/
def checkJumpsWrong : ChangeSpec := { name := "checkJumps", fn := fun _ => fun
  | [d1, d2, d3] => { results := [.lit (.bool false)], args := [d1, d2, d3] }
  | _ => none }
def CheckJumpsWrongFalsely : Prop := checkJumpsRow.holds Try.pinned (OpenSpec.ofChange checkJumpsWrong)

/-- 'cachetlaw06.CheckBounds': WHATEVER THE INPUT: true; the input reads as it did. -/
def checkBoundsSpec : ChangeSpec := { name := "checkBounds", fn := fun _ => fun
  | [d1, d2, d3] => { results := [.lit (.bool true)], args := [d1, d2, d3] }
  | _ => none }
def checkBoundsRow : OpenClaim := { program := "ytjlddhnjbjhmkaa", sum := "de7d902cb39d7ccd72bc63269558bfcfdede816305be7eb9fcf44fc38f00acf5", func := "cachet/cachetlaw06.CheckBounds", spec := "checkBounds", unfollowed := true, recurses := true, apart := false }
def CheckBoundsSaid : Prop := checkBoundsRow.holds Try.pinned (OpenSpec.ofChange checkBoundsSpec)

/-- ITS FALSE NEIGHBOUR: 'it returns false'. Refute it at one input. -/
def checkBoundsWrong : ChangeSpec := { name := "checkBounds", fn := fun _ => fun
  | [d1, d2, d3] => { results := [.lit (.bool false)], args := [d1, d2, d3] }
  | _ => none }
def CheckBoundsWrongFalsely : Prop := checkBoundsRow.holds Try.pinned (OpenSpec.ofChange checkBoundsWrong)

/-- 'cachetlaw06.CheckWithin': WHATEVER THE INPUT: true; the input reads as it did. -/
def checkWithinSpec : ChangeSpec := { name := "checkWithin", fn := fun _ => fun
  | [d1, d2, d3] => { results := [.lit (.bool true)], args := [d1, d2, d3] }
  | _ => none }
def checkWithinRow : OpenClaim := { program := "ytjlddhnjbjhmkaa", sum := "de7d902cb39d7ccd72bc63269558bfcfdede816305be7eb9fcf44fc38f00acf5", func := "cachet/cachetlaw06.CheckWithin", spec := "checkWithin", unfollowed := true, recurses := true, apart := false }
def CheckWithinSaid : Prop := checkWithinRow.holds Try.pinned (OpenSpec.ofChange checkWithinSpec)

/-- ITS FALSE NEIGHBOUR: 'it returns false'. Refute it at one input. -/
def checkWithinWrong : ChangeSpec := { name := "checkWithin", fn := fun _ => fun
  | [d1, d2, d3] => { results := [.lit (.bool false)], args := [d1, d2, d3] }
  | _ => none }
def CheckWithinWrongFalsely : Prop := checkWithinRow.holds Try.pinned (OpenSpec.ofChange checkWithinWrong)

/-- 'cachetlaw06.CheckUnset': WHATEVER THE INPUT: true; the input reads as it did. -/
def checkUnsetSpec : ChangeSpec := { name := "checkUnset", fn := fun _ => fun
  | [d] => { results := [.lit (.bool true)], args := [d] }
  | _ => none }
def checkUnsetRow : OpenClaim := { program := "ytjlddhnjbjhmkaa", sum := "de7d902cb39d7ccd72bc63269558bfcfdede816305be7eb9fcf44fc38f00acf5", func := "cachet/cachetlaw06.CheckUnset", spec := "checkUnset", unfollowed := true, recurses := true, apart := false }
def CheckUnsetSaid : Prop := checkUnsetRow.holds Try.pinned (OpenSpec.ofChange checkUnsetSpec)

/-- ITS FALSE NEIGHBOUR: 'it returns false'. Refute it at one input. -/
def checkUnsetWrong : ChangeSpec := { name := "checkUnset", fn := fun _ => fun
  | [d] => { results := [.lit (.bool false)], args := [d] }
  | _ => none }
def CheckUnsetWrongFalsely : Prop := checkUnsetRow.holds Try.pinned (OpenSpec.ofChange checkUnsetWrong)

/-- 'cachetlaw06.CheckEnds': WHATEVER THE INPUT: true; the input reads as it did. -/
def checkEndsSpec : ChangeSpec := { name := "checkEnds", fn := fun _ => fun
  | [d1, d2, d3] => { results := [.lit (.bool true)], args := [d1, d2, d3] }
  | _ => none }
def checkEndsRow : OpenClaim := { program := "ytjlddhnjbjhmkaa", sum := "de7d902cb39d7ccd72bc63269558bfcfdede816305be7eb9fcf44fc38f00acf5", func := "cachet/cachetlaw06.CheckEnds", spec := "checkEnds", unfollowed := true, recurses := true, apart := false }
def CheckEndsSaid : Prop := checkEndsRow.holds Try.pinned (OpenSpec.ofChange checkEndsSpec)

/-- ITS FALSE NEIGHBOUR: 'it returns false'. Refute it at one input. -/
def checkEndsWrong : ChangeSpec := { name := "checkEnds", fn := fun _ => fun
  | [d1, d2, d3] => { results := [.lit (.bool false)], args := [d1, d2, d3] }
  | _ => none }
def CheckEndsWrongFalsely : Prop := checkEndsRow.holds Try.pinned (OpenSpec.ofChange checkEndsWrong)

/-- 'cachetlaw06.CheckWays': WHATEVER THE INPUT: true; the input reads as it did. -/
def checkWaysSpec : ChangeSpec := { name := "checkWays", fn := fun _ => fun
  | [d1, d2, d3] => { results := [.lit (.bool true)], args := [d1, d2, d3] }
  | _ => none }
def checkWaysRow : OpenClaim := { program := "ytjlddhnjbjhmkaa", sum := "de7d902cb39d7ccd72bc63269558bfcfdede816305be7eb9fcf44fc38f00acf5", func := "cachet/cachetlaw06.CheckWays", spec := "checkWays", unfollowed := true, recurses := true, apart := false }
def CheckWaysSaid : Prop := checkWaysRow.holds Try.pinned (OpenSpec.ofChange checkWaysSpec)

/-- ITS FALSE NEIGHBOUR: 'it returns false'. Refute it at one input. -/
def checkWaysWrong : ChangeSpec := { name := "checkWays", fn := fun _ => fun
  | [d1, d2, d3] => { results := [.lit (.bool false)], args := [d1, d2, d3] }
  | _ => none }
def CheckWaysWrongFalsely : Prop := checkWaysRow.holds Try.pinned (OpenSpec.ofChange checkWaysWrong)

/- THE SECOND FORM. 'bulk': how many values and letters a reading holds, each counted each time it is reached (what is shared counts as often as it is met; a slice's spare places count too). A statement '..UptoSaid' is the law's where the arguments, and the package variables that the reading takes, are together of bulk at most 1048576: NARROWER than '..Said'. Prove '..Said' where nothing that the law and all that it calls make is longer than what came in: it says more and counts as full. Else prove '..UptoSaid'. A law counts once. -/
mutual
def uptoBulk {H : Type} : DataW H → Nat
  | .lit (.string bytes) => bytes.length + 1
  | .lit _ => 1
  | .nil => 1
  | .ptr d => uptoBulk d + 1
  | .slice elems spare => uptoBulkAll elems + uptoBulkAll spare + 1
  | .agg parts => uptoBulkAll parts + 1
  | .iface _ d => uptoBulk d + 1
  | .map entries => uptoBulkEntries entries + 1
  | .held _ => 1
def uptoBulkAll {H : Type} : List (DataW H) → Nat
  | [] => 0
  | d :: r => uptoBulk d + uptoBulkAll r
def uptoBulkEntries {H : Type} : List (Lit × DataW H) → Nat
  | [] => 0
  | x :: r => uptoBulkEntry x + uptoBulkEntries r
def uptoBulkEntry {H : Type} : Lit × DataW H → Nat
  | (.string bytes, d) => bytes.length + uptoBulk d + 1
  | (_, d) => uptoBulk d + 1
 end
def uptoSmall : (H : Type) → List (DataW H) → Bool := fun _ ds => decide (uptoBulkAll ds ≤ 1048576)
def OpenSpec.upto (s : _root_.Go.ChangeSpec) : _root_.Go.OpenSpec := { _root_.Go.OpenSpec.ofChange s with cond := some uptoSmall }

/-- 'cachetlaw06.CheckKnown', WHERE WHAT IT READS IS OF BULK AT MOST 1048576: true; the input reads as it did. -/
def checkKnownUptoRow : OpenClaim := { program := "ytjlddhnjbjhmkaa", sum := "de7d902cb39d7ccd72bc63269558bfcfdede816305be7eb9fcf44fc38f00acf5", func := "cachet/cachetlaw06.CheckKnown", spec := "checkKnown", unfollowed := true, recurses := true, apart := false, narrowed := true }
def CheckKnownUptoSaid : Prop := checkKnownUptoRow.holds Try.pinned (OpenSpec.upto checkKnownSpec)

/-- 'cachetlaw06.CheckSums', WHERE WHAT IT READS IS OF BULK AT MOST 1048576: true; the input reads as it did. -/
def checkSumsUptoRow : OpenClaim := { program := "ytjlddhnjbjhmkaa", sum := "de7d902cb39d7ccd72bc63269558bfcfdede816305be7eb9fcf44fc38f00acf5", func := "cachet/cachetlaw06.CheckSums", spec := "checkSums", unfollowed := true, recurses := true, apart := false, narrowed := true }
def CheckSumsUptoSaid : Prop := checkSumsUptoRow.holds Try.pinned (OpenSpec.upto checkSumsSpec)

/-- 'cachetlaw06.CheckJumps', WHERE WHAT IT READS IS OF BULK AT MOST 1048576: true; the input reads as it did. -/
def checkJumpsUptoRow : OpenClaim := { program := "ytjlddhnjbjhmkaa", sum := "de7d902cb39d7ccd72bc63269558bfcfdede816305be7eb9fcf44fc38f00acf5", func := "cachet/cachetlaw06.CheckJumps", spec := "checkJumps", unfollowed := true, recurses := true, apart := false, narrowed := true }
def CheckJumpsUptoSaid : Prop := checkJumpsUptoRow.holds Try.pinned (OpenSpec.upto checkJumpsSpec)

/-- 'cachetlaw06.CheckBounds', WHERE WHAT IT READS IS OF BULK AT MOST 1048576: true; the input reads as it did. -/
def checkBoundsUptoRow : OpenClaim := { program := "ytjlddhnjbjhmkaa", sum := "de7d902cb39d7ccd72bc63269558bfcfdede816305be7eb9fcf44fc38f00acf5", func := "cachet/cachetlaw06.CheckBounds", spec := "checkBounds", unfollowed := true, recurses := true, apart := false, narrowed := true }
def CheckBoundsUptoSaid : Prop := checkBoundsUptoRow.holds Try.pinned (OpenSpec.upto checkBoundsSpec)

/-- 'cachetlaw06.CheckWithin', WHERE WHAT IT READS IS OF BULK AT MOST 1048576: true; the input reads as it did. -/
def checkWithinUptoRow : OpenClaim := { program := "ytjlddhnjbjhmkaa", sum := "de7d902cb39d7ccd72bc63269558bfcfdede816305be7eb9fcf44fc38f00acf5", func := "cachet/cachetlaw06.CheckWithin", spec := "checkWithin", unfollowed := true, recurses := true, apart := false, narrowed := true }
def CheckWithinUptoSaid : Prop := checkWithinUptoRow.holds Try.pinned (OpenSpec.upto checkWithinSpec)

/-- 'cachetlaw06.CheckUnset', WHERE WHAT IT READS IS OF BULK AT MOST 1048576: true; the input reads as it did. -/
def checkUnsetUptoRow : OpenClaim := { program := "ytjlddhnjbjhmkaa", sum := "de7d902cb39d7ccd72bc63269558bfcfdede816305be7eb9fcf44fc38f00acf5", func := "cachet/cachetlaw06.CheckUnset", spec := "checkUnset", unfollowed := true, recurses := true, apart := false, narrowed := true }
def CheckUnsetUptoSaid : Prop := checkUnsetUptoRow.holds Try.pinned (OpenSpec.upto checkUnsetSpec)

/-- 'cachetlaw06.CheckEnds', WHERE WHAT IT READS IS OF BULK AT MOST 1048576: true; the input reads as it did. -/
def checkEndsUptoRow : OpenClaim := { program := "ytjlddhnjbjhmkaa", sum := "de7d902cb39d7ccd72bc63269558bfcfdede816305be7eb9fcf44fc38f00acf5", func := "cachet/cachetlaw06.CheckEnds", spec := "checkEnds", unfollowed := true, recurses := true, apart := false, narrowed := true }
def CheckEndsUptoSaid : Prop := checkEndsUptoRow.holds Try.pinned (OpenSpec.upto checkEndsSpec)

/-- 'cachetlaw06.CheckWays', WHERE WHAT IT READS IS OF BULK AT MOST 1048576: true; the input reads as it did. -/
def checkWaysUptoRow : OpenClaim := { program := "ytjlddhnjbjhmkaa", sum := "de7d902cb39d7ccd72bc63269558bfcfdede816305be7eb9fcf44fc38f00acf5", func := "cachet/cachetlaw06.CheckWays", spec := "checkWays", unfollowed := true, recurses := true, apart := false, narrowed := true }
def CheckWaysUptoSaid : Prop := checkWaysUptoRow.holds Try.pinned (OpenSpec.upto checkWaysSpec)

end Rows
end Go.Proofs.Ytjlddhnjbjhmkaa
