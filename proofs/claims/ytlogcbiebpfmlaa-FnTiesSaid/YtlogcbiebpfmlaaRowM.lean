/- The laws' own marks of lists of Row. Conditions: lengths below 2^20. -/
import Derived.Test.YtlogcbiebpfmlaaRowS
namespace Go.Proofs.Ytlogcbiebpfmlaa
set_option linter.unusedSimpArgs false
set_option linter.unusedVariables false
open Go.RowKit

/-- The mark of a cell. -/
def mkRow (k0 : Int) (p : Nat) : Value := if False then .bool ((k0 + (p : Nat)) % 3 == 0) else .int .i64 (k0 + (p : Nat))
theorem mkRow_i (k0 : Int) (p : Nat) (h : ¬ (False)) : mkRow k0 p = .int .i64 (k0 + (p : Nat)) := by unfold mkRow; rw [if_neg h]
theorem mkRow_b (k0 : Int) (p : Nat) (h : False) : mkRow k0 p = .bool ((k0 + (p : Nat)) % 3 == 0) := by unfold mkRow; rw [if_pos h]
end Go.Proofs.Ytlogcbiebpfmlaa
