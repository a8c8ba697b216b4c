/- The expected score: what both functions compute. Condition: the difference of two ratings. -/
import Derived.Test.YteeplmnjipddaaaSl
import Derived.Test.YteeplmnjipddaaaRate1
import Derived.BigQuiet
import Derived.Deep.QuietTactic
namespace Go.Proofs.Yteeplmnjipddaaa
set_option linter.unusedSimpArgs false
set_option linter.unusedVariables false
open Go.RowKit

def tabE : List Int := [500, 571, 640, 703, 760, 808, 849, 882, 909, 930, 947, 960, 969, 977, 983, 987, 990]
def expP (n : Nat) : Int := if 800 ≤ n then 990 else tabE.getD (n / 50) 0 + (tabE.getD (n / 50 + 1) 0 - tabE.getD (n / 50) 0) * ((n % 50 : Nat) : Int) / 50
def expE (d : Int) : Int := if d < 0 then 1000 - expP (-d).toNat else expP d.toNat
theorem tab_bd : ∀ k, k < 16 → 500 ≤ tabE.getD k 0 ∧ tabE.getD k 0 ≤ tabE.getD (k + 1) 0 ∧ tabE.getD (k + 1) 0 ≤ 990 ∧ tabE.getD (k + 1) 0 - tabE.getD k 0 ≤ 100 := by decide
theorem tab_cell (w : World) (t : TypeId) (k : Nat) (hk : k < 17) :
    (w.alloc (Obj.cells #[.int .i64 500, .int .i64 571, .int .i64 640, .int .i64 703, .int .i64 760, .int .i64 808, .int .i64 849, .int .i64 882, .int .i64 909, .int .i64 930, .int .i64 947, .int .i64 960, .int .i64 969, .int .i64 977, .int .i64 983, .int .i64 987, .int .i64 990] t)).cell? ⟨w.heap.size, k, none⟩ = some (.int .i64 (tabE.getD k 0)) := by
  rw [World.cell?_alloc_at (hn := rfl)]
  have h : k = 0 ∨ k = 1 ∨ k = 2 ∨ k = 3 ∨ k = 4 ∨ k = 5 ∨ k = 6 ∨ k = 7 ∨ k = 8 ∨ k = 9 ∨ k = 10 ∨ k = 11 ∨ k = 12 ∨ k = 13 ∨ k = 14 ∨ k = 15 ∨ k = 16 := by omega
  rcases h with rfl | rfl | rfl | rfl | rfl | rfl | rfl | rfl | rfl | rfl | rfl | rfl | rfl | rfl | rfl | rfl | rfl <;> rfl
theorem expP_bd (n : Nat) : 500 ≤ expP n ∧ expP n ≤ 990 := by
  by_cases h8 : 800 ≤ n
  · rw [expP, if_pos h8]; omega
  · have hb := tab_bd (n / 50) (by omega)
    rw [expP, if_neg h8]
    generalize tabE.getD (n / 50) 0 = lo at *
    generalize tabE.getD (n / 50 + 1) 0 = hi at *
    obtain ⟨b1, b2, b3, b4⟩ := hb
    have m1 : 0 ≤ (hi - lo) * ((n % 50 : Nat) : Int) := Int.mul_nonneg (by omega) (by omega)
    have m2 : (hi - lo) * ((n % 50 : Nat) : Int) ≤ (hi - lo) * 50 := Int.mul_le_mul (by omega) (by omega) (by omega) (by omega)
    omega
theorem expE_bd (d : Int) : 10 ≤ expE d ∧ expE d ≤ 990 := by
  unfold expE
  split
  · have := expP_bd (-d).toNat; omega
  · have := expP_bd d.toNat; omega
theorem expE_nat (n : Nat) : expE n = expP n := by
  rw [expE, if_neg (by omega)]; rfl
theorem expE_neg (n : Nat) (h : 0 < n) : expE (-(n : Int)) = 1000 - expP n := by
  rw [expE, if_pos (by omega)]; simp
end Go.Proofs.Yteeplmnjipddaaa
