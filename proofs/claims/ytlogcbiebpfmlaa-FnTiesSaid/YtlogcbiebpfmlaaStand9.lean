/- RanksOf: both functions, and the law. No conditions beyond lengths. -/
import Derived.Test.YtlogcbiebpfmlaaStand8
import Derived.Test.YtlogcbiebpfmlaaLists
import Derived.Test.YtlogcbiebpfmlaaInt64S
namespace Go.Proofs.Ytlogcbiebpfmlaa
set_option linter.unusedSimpArgs false
set_option linter.unusedVariables false
open Go.RowKit

def rkZ (F : Nat → Nat → Int) (n : Nat) : List Int := (List.range n).map fun a => 1 + cntB F a n
theorem rkZ_len (F : Nat → Nat → Int) (n : Nat) : (rkZ F n).length = n := by simp [rkZ]
theorem rkZ_map (F : Nat → Nat → Int) (n : Nat) : rkL F n n = (rkZ F n).map (Value.int .i64) := by simp [rkL, rkZ]
/-- What RanksOf returns. -/
def ranksR (n : Int) (vs : List Value) (c : Nat) : List Int × Int := if validMs n vs then (rkZ (F2 vs c c) n.toNat, 0) else ([], 1)
theorem prLI {x x' : List Int} {z z' : Int} (h : (x', z') = (x, z)) : x' = x ∧ z' = z := by
  injection h with h1 h2
  exact ⟨h1, h2⟩
def LiPost (l : List Int) (code : Int) (w : World) (e : Ending) (w' : World) : Prop :=
  ∃ (A : Option Addr) (g cap : Nat), e = .returned (.tuple #[.slice A l.length cap, .int .i64 code]) ∧ w.heap.size ≤ g ∧ OwnV w' g 2 1 A l.length (l.map (Value.int .i64)) ∧ Below w.heap.size w w'
theorem li_none (w w' : World) (code : Int) (hb : Below w.heap.size w w') : LiPost [] code w (.returned (.tuple #[.slice none 0 0, .int .i64 code])) w' := ⟨none, w.heap.size, 0, rfl, Nat.le_refl _, OwnV.none _ _ _ _ _, hb⟩
end Go.Proofs.Ytlogcbiebpfmlaa
