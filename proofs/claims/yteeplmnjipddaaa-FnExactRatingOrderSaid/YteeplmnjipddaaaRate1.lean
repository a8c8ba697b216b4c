/- Contracts of the rating functions that only compute. No conditions. -/
import Derived.Test.YteeplmnjipddaaaRate0
import Derived.Test.YteeplmnjipddaaaNum
namespace Go.Proofs.Yteeplmnjipddaaa
set_option linter.unusedSimpArgs false
set_option linter.unusedVariables false
open Go.RowKit

def stepR (a b : Int) : Int := if b < 10 then 40 else if a < 2000 then 20 else 10
theorem stepR1 {a b : Int} (h : b < 10) : stepR a b = 40 := if_pos h
theorem stepR2 {a b : Int} (h : 10 ≤ b) (h2 : a < 2000) : stepR a b = 20 := by rw [stepR, if_neg (by omega), if_pos h2]
theorem stepR3 {a b : Int} (h : 10 ≤ b) (h2 : 2000 ≤ a) : stepR a b = 10 := by rw [stepR, if_neg (by omega), if_neg (by omega)]
def stepC (a b : Int) : Int := if validB a b then stepR a b else 0
def stepE (a b : Int) : Int := if validB a b then 0 else 1
end Go.Proofs.Yteeplmnjipddaaa
