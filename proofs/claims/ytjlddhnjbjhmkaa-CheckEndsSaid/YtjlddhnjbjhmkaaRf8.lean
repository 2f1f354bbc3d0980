/- Layer 6, the document's answer: what an op makes of two spans (all). -/
import Derived.Test.YtjlddhnjbjhmkaaRf5
import Derived.Test.YtjlddhnjbjhmkaaRf6
import Derived.Test.YtjlddhnjbjhmkaaRf7
import Derived.BigQuiet
import Derived.IntWalk
set_option linter.unusedVariables false
set_option linter.unusedSimpArgs false
namespace Go.Proofs.Ytjlddhnjbjhmkaa
open Go.RowKit

theorem refmake_ok (w : World) (op : Nat) (h1 : 1 ≤ op) (h15 : op ≤ 15) (d s : Sp) (hd : d.ok) (hs : s.ok) (h0 : op = 14 ∨ op = 15 → 0 < s.l) (h5 : op = 12 ∨ op = 13 → s.l ≤ 31) : Calls Try.prog 35 #[.int .i64 (op : Int), .agg #[.int .i64 (d.l : Int), .int .i64 (d.g : Int)], .agg #[.int .i64 (s.l : Int), .int .i64 (s.g : Int)]] w fun e w' => e = .returned (.agg #[.int .i64 ((mkS op d s).l : Int), .int .i64 ((mkS op d s).g : Int)]) ∧ Below w.heap.size w w' := by
  obtain ⟨dl, dg⟩ := d
  obtain ⟨sl, sg⟩ := s
  obtain ⟨a1, a2⟩ := hd
  obtain ⟨a3, a4⟩ := hs
  have hc : op = 1 ∨ op = 2 ∨ op = 3 ∨ op = 4 ∨ op = 5 ∨ op = 6 ∨ op = 7 ∨ op = 8 ∨ op = 9 ∨ op = 10 ∨ op = 11 ∨ op = 12 ∨ op = 13 ∨ op = 14 ∨ op = 15 := by omega
  rcases hc with rfl | rfl | rfl | rfl | rfl | rfl | rfl | rfl | rfl | rfl | rfl | rfl | rfl | rfl | rfl
  · exact rmk1_ok w dl dg sl sg a1 a2 a3 a4
  · exact rmk2_ok w dl dg sl sg a1 a2 a3 a4
  · exact rmk3_ok w dl dg sl sg a1 a2 a3 a4
  · exact rmk4_ok w dl dg sl sg a1 a2 a3 a4
  · exact rmk5_ok w dl dg sl sg a1 a2 a3 a4
  · exact rmk6_ok w dl dg sl sg a1 a2 a3 a4
  · exact rmk7_ok w dl dg sl sg a1 a2 a3 a4
  · exact rmk8_ok w dl dg sl sg a1 a2 a3 a4
  · exact rmk9_ok w dl dg sl sg a1 a2 a3 a4
  · exact rmk10_ok w dl dg sl sg a1 a2 a3 a4
  · exact rmk11_ok w dl dg sl sg a1 a2 a3 a4
  · exact rmk12_ok w dl dg sl sg a1 a2 a3 a4 (h5 (by omega))
  · exact rmk13_ok w dl dg sl sg a1 a2 a3 a4 (h5 (by omega))
  · exact rmk14_ok w dl dg sl sg a1 a2 a3 a4 (h0 (by omega))
  · exact rmk15_ok w dl dg sl sg a1 a2 a3 a4 (h0 (by omega))
end Go.Proofs.Ytjlddhnjbjhmkaa
