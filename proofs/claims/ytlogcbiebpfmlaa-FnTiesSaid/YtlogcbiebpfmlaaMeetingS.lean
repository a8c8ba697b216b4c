/- The laws' own copies, comparisons and marks of lists of Meeting. Conditions: lengths below 2^20. -/
import Derived.Test.YtlogcbiebpfmlaaFlat
namespace Go.Proofs.Ytlogcbiebpfmlaa
set_option linter.unusedSimpArgs false
set_option linter.unusedVariables false
open Go.RowKit

end Go.Proofs.Ytlogcbiebpfmlaa
