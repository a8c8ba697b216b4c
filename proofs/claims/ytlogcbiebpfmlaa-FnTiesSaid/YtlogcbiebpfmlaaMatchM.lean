/- The laws' own marks of lists of Match. Conditions: lengths below 2^20. -/
import Derived.Test.YtlogcbiebpfmlaaMatchS
namespace Go.Proofs.Ytlogcbiebpfmlaa
set_option linter.unusedSimpArgs false
set_option linter.unusedVariables false
open Go.RowKit

/-- The mark of a cell. -/
def mkMatch (k0 : Int) (p : Nat) : Value := if p % 4 = 3 then .bool ((k0 + (p : Nat)) % 3 == 0) else .int .i64 (k0 + (p : Nat))
theorem mkMatch_i (k0 : Int) (p : Nat) (h : ¬ (p % 4 = 3)) : mkMatch k0 p = .int .i64 (k0 + (p : Nat)) := by unfold mkMatch; rw [if_neg h]
theorem mkMatch_b (k0 : Int) (p : Nat) (h : p % 4 = 3) : mkMatch k0 p = .bool ((k0 + (p : Nat)) % 3 == 0) := by unfold mkMatch; rw [if_pos h]
end Go.Proofs.Ytlogcbiebpfmlaa
