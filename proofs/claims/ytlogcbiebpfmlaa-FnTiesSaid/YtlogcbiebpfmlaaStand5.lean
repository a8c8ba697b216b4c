/- RowsOf: both functions, and the law. No conditions beyond lengths. -/
import Derived.Test.YtlogcbiebpfmlaaStand4
namespace Go.Proofs.Ytlogcbiebpfmlaa
set_option linter.unusedSimpArgs false
set_option linter.unusedVariables false
open Go.RowKit

/-- What RowsOf returns: how many rows, the rows, the code. -/
def rowsR (n : Int) (vs : List Value) (c : Nat) : Nat × List Value × Int := if validMs n vs then (n.toNat, flatF n.toNat (F2 vs c c), 0) else (0, [], 1)
theorem tri {α : Type} {a a' : Nat} {x x' : α} {z z' : Int} (h : (a', x', z') = (a, x, z)) : a' = a ∧ x' = x ∧ z' = z := by
  injection h with h1 h2
  injection h2 with h3 h4
  exact ⟨h1, h3, h4⟩
theorem flatF_typ (n : Nat) (F : Nat → Nat → Int) : TypRow (flatF n F) n := by
  intro k hk
  have e : ∀ c, c < 6 → (flatF n F)[k * 6 + c]? = some (.int .i64 (F k c)) := fun c hc => by
    have := flatF_at F hk hc
    simpa only [List.getElem?_toArray] using this
  exact ⟨_, _, _, _, _, _, e 0 (by omega), e 1 (by omega), e 2 (by omega), e 3 (by omega), e 4 (by omega), e 5 (by omega)⟩
def RoPost (q : Nat) (L : List Value) (code : Int) (w : World) (e : Ending) (w' : World) : Prop :=
  ∃ (A : Option Addr) (g cap : Nat), e = .returned (.tuple #[.slice A q cap, .int .i64 code]) ∧ w.heap.size ≤ g ∧ OwnV w' g 54 6 A q L ∧ Below w.heap.size w w'
end Go.Proofs.Ytlogcbiebpfmlaa
