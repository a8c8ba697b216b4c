/- A player after some games, by both functions. Conditions: sums of at most 198000. -/
import Derived.Test.YteeplmnjipddaaaRate3
import Derived.Test.YteeplmnjipddaaaFlat
namespace Go.Proofs.Yteeplmnjipddaaa
set_option linter.unusedSimpArgs false
set_option linter.unusedVariables false
open Go.RowKit

def rnd (t : Int) : Int := if t < 0 then -((2 * -t + 1000) / 2000) else (2 * t + 1000) / 2000
def mvA (a b s : Int) : Int := max 0 (min 4000 (a + rnd (stepR a b * s)))
def mvB (b g : Int) : Int := min 1000000 (b + g)
theorem stepR_cases (a b : Int) : stepR a b = 40 ∨ stepR a b = 20 ∨ stepR a b = 10 := by
  unfold stepR
  split
  · exact .inl rfl
  · split
    · exact .inr (.inl rfl)
    · exact .inr (.inr rfl)
theorem total_bd {a b s : Int} (h1 : -198000 ≤ s) (h2 : s ≤ 198000) : -7920000 ≤ stepR a b * s ∧ stepR a b * s ≤ 7920000 := by
  rcases stepR_cases a b with h | h | h <;> rw [h] <;> omega
theorem ret_agg {x x' y y' : Int} (h : x = x') (h2 : y = y') : Ending.returned (.agg #[.int .i64 x, .int .i64 y]) = .returned (.agg #[.int .i64 x', .int .i64 y']) := by rw [h, h2]
theorem res_cells {w1 : World} {g : Nat} {t : TypeId} (K : Blk w1 g t #[.int .i64 0, .int .i64 0]) :
    (∀ v v', ((w1.setCell ⟨g, 0, none⟩ v).setCell ⟨g, 1, none⟩ v').cell? ⟨g, 0, none⟩ = some v) ∧ (∀ v v', ((w1.setCell ⟨g, 0, none⟩ v).setCell ⟨g, 1, none⟩ v').cell? ⟨g, 1, none⟩ = some v') :=
  ⟨fun v v' => ((K.set 0 v).set 1 v').cell 0, fun v v' => ((K.set 0 v).set 1 v').cell 1⟩
end Go.Proofs.Yteeplmnjipddaaa
