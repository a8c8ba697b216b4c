/- The laws' own marks of lists of numbers. Conditions: lengths below 2^40. -/
import Derived.Test.YtpdmacklipcmkaaFlat
namespace Go.Proofs.Ytpdmacklipcmkaa
set_option linter.unusedSimpArgs false
set_option linter.unusedVariables false
open Go.RowKit

end Go.Proofs.Ytpdmacklipcmkaa
