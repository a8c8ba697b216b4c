/- The laws' own copies and comparisons of lists of Row. Conditions: lengths below 2^20. -/
import Derived.Test.YtlogcbiebpfmlaaApp
namespace Go.Proofs.Ytlogcbiebpfmlaa
set_option linter.unusedSimpArgs false
set_option linter.unusedVariables false
open Go.RowKit

/-- Each element has fields of its kinds. -/
def TypRow (vs : List Value) (n : Nat) : Prop := ∀ k, k < n → ∃ (a0 : Int) (a1 : Int) (a2 : Int) (a3 : Int) (a4 : Int) (a5 : Int), vs[k * 6]? = some (.int .i64 a0) ∧ vs[k * 6 + 1]? = some (.int .i64 a1) ∧ vs[k * 6 + 2]? = some (.int .i64 a2) ∧ vs[k * 6 + 3]? = some (.int .i64 a3) ∧ vs[k * 6 + 4]? = some (.int .i64 a4) ∧ vs[k * 6 + 5]? = some (.int .i64 a5)
end Go.Proofs.Ytlogcbiebpfmlaa
