/- Contracts of the small functions on numbers. No conditions. -/
import Derived.Test.YteeplmnjipddaaaKit
import Derived.Test.YteeplmnjipddaaaRows
namespace Go.Proofs.Yteeplmnjipddaaa
set_option linter.unusedSimpArgs false
set_option linter.unusedVariables false
open Go.RowKit

def inB (n a b : Int) : Bool := decide (a ≤ n ∧ n ≤ b)
theorem inB_t {n a b : Int} (h1 : a ≤ n) (h2 : n ≤ b) : inB n a b = true := by simp [inB, h1, h2]
theorem inB_f1 {n a b : Int} (h1 : n < a) : inB n a b = false := by simp [inB]; omega
theorem inB_f2 {n a b : Int} (h1 : b < n) : inB n a b = false := by simp [inB]; omega
theorem inB_of {n a b : Int} (h : inB n a b = true) : a ≤ n ∧ n ≤ b := by simpa [inB] using h

theorem l00In_any (n a b : Int) (w : World) : Calls Try.prog 54 #[.int .i64 n, .int .i64 a, .int .i64 b] w fun e w' => e = .returned (.bool (inB n a b)) ∧ w = w' := by
  by_cases h1 : a ≤ n <;> by_cases h2 : n ≤ b
  all_goals
    go_enter Try.func54, Try.ntmps54
    go_wp2
    go_ret
    refine ⟨?_, rfl⟩
    first | (rw [inB_t h1 h2]; rfl) | (rw [inB_f1 (by omega)]; rfl) | (rw [inB_f2 (by omega)]; rfl)
theorem between_any (n a b : Int) (w : World) : Calls Try.prog 63 #[.int .i64 n, .int .i64 a, .int .i64 b] w fun e w' => e = .returned (.bool (inB n a b)) ∧ w = w' := by
  by_cases h1 : a ≤ n <;> by_cases h2 : n ≤ b
  all_goals
    go_enter Try.func63, Try.ntmps63
    go_wp2
    go_ret
    refine ⟨?_, rfl⟩
    first | (rw [inB_t h1 h2]; rfl) | (rw [inB_f1 (by omega)]; rfl) | (rw [inB_f2 (by omega)]; rfl)
end Go.Proofs.Yteeplmnjipddaaa
