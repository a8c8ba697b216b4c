/- A player after some games, by both functions. Conditions: sums of at most 198000. -/
import Derived.Test.YtcfbihponecblaaG04
import Derived.Test.YtcfbihponecblaaG00
import Derived.BigQuiet
import Derived.Deep.QuietTactic
import Derived.Test.YtcfbihponecblaaG01
/- Contracts of the rating functions that only compute. No conditions. -/
namespace Go.Proofs.Ytcfbihponecblaa
set_option linter.unusedSimpArgs false
set_option linter.unusedVariables false
open Go.RowKit

def stepR (a b : Int) : Int := if b < 10 then 40 else if a < 2000 then 20 else 10
theorem stepR1 {a b : Int} (h : b < 10) : stepR a b = 40 := if_pos h
theorem stepR2 {a b : Int} (h : 10 ≤ b) (h2 : a < 2000) : stepR a b = 20 := by rw [stepR, if_neg (by omega), if_pos h2]
theorem stepR3 {a b : Int} (h : 10 ≤ b) (h2 : 2000 ≤ a) : stepR a b = 10 := by rw [stepR, if_neg (by omega), if_neg (by omega)]
def stepC (a b : Int) : Int := if validB a b then stepR a b else 0
def stepE (a b : Int) : Int := if validB a b then 0 else 1
end Go.Proofs.Ytcfbihponecblaa
/- The expected score: what both functions compute. Condition: the difference of two ratings. -/
namespace Go.Proofs.Ytcfbihponecblaa
set_option linter.unusedSimpArgs false
set_option linter.unusedVariables false
open Go.RowKit

def tabE : List Int := [500, 571, 640, 703, 760, 808, 849, 882, 909, 930, 947, 960, 969, 977, 983, 987, 990]
def expP (n : Nat) : Int := if 800 ≤ n then 990 else tabE.getD (n / 50) 0 + (tabE.getD (n / 50 + 1) 0 - tabE.getD (n / 50) 0) * ((n % 50 : Nat) : Int) / 50
def expE (d : Int) : Int := if d < 0 then 1000 - expP (-d).toNat else expP d.toNat
theorem tab_bd : ∀ k, k < 16 → 500 ≤ tabE.getD k 0 ∧ tabE.getD k 0 ≤ tabE.getD (k + 1) 0 ∧ tabE.getD (k + 1) 0 ≤ 990 ∧ tabE.getD (k + 1) 0 - tabE.getD k 0 ≤ 100 := by decide
theorem tab_cell (w : World) (t : TypeId) (k : Nat) (hk : k < 17) :
    (w.alloc (Obj.cells #[.int .i64 500, .int .i64 571, .int .i64 640, .int .i64 703, .int .i64 760, .int .i64 808, .int .i64 849, .int .i64 882, .int .i64 909, .int .i64 930, .int .i64 947, .int .i64 960, .int .i64 969, .int .i64 977, .int .i64 983, .int .i64 987, .int .i64 990] t)).cell? ⟨w.heap.size, k, none⟩ = some (.int .i64 (tabE.getD k 0)) := by
  rw [World.cell?_alloc_at (hn := rfl)]
  have h : k = 0 ∨ k = 1 ∨ k = 2 ∨ k = 3 ∨ k = 4 ∨ k = 5 ∨ k = 6 ∨ k = 7 ∨ k = 8 ∨ k = 9 ∨ k = 10 ∨ k = 11 ∨ k = 12 ∨ k = 13 ∨ k = 14 ∨ k = 15 ∨ k = 16 := by omega
  rcases h with rfl | rfl | rfl | rfl | rfl | rfl | rfl | rfl | rfl | rfl | rfl | rfl | rfl | rfl | rfl | rfl | rfl <;> rfl
theorem expP_bd (n : Nat) : 500 ≤ expP n ∧ expP n ≤ 990 := by
  by_cases h8 : 800 ≤ n
  · rw [expP, if_pos h8]; omega
  · have hb := tab_bd (n / 50) (by omega)
    rw [expP, if_neg h8]
    generalize tabE.getD (n / 50) 0 = lo at *
    generalize tabE.getD (n / 50 + 1) 0 = hi at *
    obtain ⟨b1, b2, b3, b4⟩ := hb
    have m1 : 0 ≤ (hi - lo) * ((n % 50 : Nat) : Int) := Int.mul_nonneg (by omega) (by omega)
    have m2 : (hi - lo) * ((n % 50 : Nat) : Int) ≤ (hi - lo) * 50 := Int.mul_le_mul (by omega) (by omega) (by omega) (by omega)
    omega
theorem expE_bd (d : Int) : 10 ≤ expE d ∧ expE d ≤ 990 := by
  unfold expE
  split
  · have := expP_bd (-d).toNat; omega
  · have := expP_bd d.toNat; omega
theorem expE_nat (n : Nat) : expE n = expP n := by
  rw [expE, if_neg (by omega)]; rfl
theorem expE_neg (n : Nat) (h : 0 < n) : expE (-(n : Int)) = 1000 - expP n := by
  rw [expE, if_pos (by omega)]; simp
end Go.Proofs.Ytcfbihponecblaa
/- ExpectedScore: both functions, and the law. No conditions. -/
namespace Go.Proofs.Ytcfbihponecblaa
set_option linter.unusedSimpArgs false
set_option linter.unusedVariables false
open Go.RowKit

def exC (a b : Int) : Int := if inB a 0 4000 && inB b 0 4000 then expE (a - b) else 0
def exE (a b : Int) : Int := if inB a 0 4000 && inB b 0 4000 then 0 else 2
end Go.Proofs.Ytcfbihponecblaa
/- A player after some games, by both functions. Conditions: sums of at most 198000. -/
namespace Go.Proofs.Ytcfbihponecblaa
set_option linter.unusedSimpArgs false
set_option linter.unusedVariables false
open Go.RowKit

def rnd (t : Int) : Int := if t < 0 then -((2 * -t + 1000) / 2000) else (2 * t + 1000) / 2000
def mvA (a b s : Int) : Int := max 0 (min 4000 (a + rnd (stepR a b * s)))
def mvB (b g : Int) : Int := min 1000000 (b + g)
theorem stepR_cases (a b : Int) : stepR a b = 40 ∨ stepR a b = 20 ∨ stepR a b = 10 := by
  unfold stepR
  split
  · exact .inl rfl
  · split
    · exact .inr (.inl rfl)
    · exact .inr (.inr rfl)
theorem total_bd {a b s : Int} (h1 : -198000 ≤ s) (h2 : s ≤ 198000) : -7920000 ≤ stepR a b * s ∧ stepR a b * s ≤ 7920000 := by
  rcases stepR_cases a b with h | h | h <;> rw [h] <;> omega
theorem ret_agg {x x' y y' : Int} (h : x = x') (h2 : y = y') : Ending.returned (.agg #[.int .i64 x, .int .i64 y]) = .returned (.agg #[.int .i64 x', .int .i64 y']) := by rw [h, h2]
theorem res_cells {w1 : World} {g : Nat} {t : TypeId} (K : Blk w1 g t #[.int .i64 0, .int .i64 0]) :
    (∀ v v', ((w1.setCell ⟨g, 0, none⟩ v).setCell ⟨g, 1, none⟩ v').cell? ⟨g, 0, none⟩ = some v) ∧ (∀ v v', ((w1.setCell ⟨g, 0, none⟩ v).setCell ⟨g, 1, none⟩ v').cell? ⟨g, 1, none⟩ = some v') :=
  ⟨fun v v' => ((K.set 0 v).set 1 v').cell 0, fun v v' => ((K.set 0 v).set 1 v').cell 1⟩
end Go.Proofs.Ytcfbihponecblaa
