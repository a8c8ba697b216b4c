/- ExpectedScore: both functions, and the law. No conditions. -/
import Derived.Test.YteeplmnjipddaaaRate2
namespace Go.Proofs.Yteeplmnjipddaaa
set_option linter.unusedSimpArgs false
set_option linter.unusedVariables false
open Go.RowKit

def exC (a b : Int) : Int := if inB a 0 4000 && inB b 0 4000 then expE (a - b) else 0
def exE (a b : Int) : Int := if inB a 0 4000 && inB b 0 4000 then 0 else 2
end Go.Proofs.Yteeplmnjipddaaa
