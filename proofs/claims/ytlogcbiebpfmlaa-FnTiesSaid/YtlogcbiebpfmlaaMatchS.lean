/- The laws' own copies and comparisons of lists of Match. Conditions: lengths below 2^20. -/
import Derived.Test.YtlogcbiebpfmlaaApp
namespace Go.Proofs.Ytlogcbiebpfmlaa
set_option linter.unusedSimpArgs false
set_option linter.unusedVariables false
open Go.RowKit

/-- Each element has fields of its kinds. -/
def TypMatch (vs : List Value) (n : Nat) : Prop := ∀ k, k < n → ∃ (a0 : Int) (a1 : Int) (a2 : Int) (a3 : Bool), vs[k * 4]? = some (.int .i64 a0) ∧ vs[k * 4 + 1]? = some (.int .i64 a1) ∧ vs[k * 4 + 2]? = some (.int .i64 a2) ∧ vs[k * 4 + 3]? = some (.bool a3)
end Go.Proofs.Ytlogcbiebpfmlaa
