/- A player after some games, by the reference. Conditions: sums of at most 198000. -/
import Derived.Test.YteeplmnjipddaaaMove
import Derived.Deep.RegionHeld3
namespace Go.Proofs.Yteeplmnjipddaaa
set_option linter.unusedSimpArgs false
set_option linter.unusedVariables false
open Go.RowKit

theorem boxed2' (w : World) (o : Obj) : Below w.heap.size w (w.alloc o) := Below.alloc (Below.refl _ _) (Nat.le_refl _) o
theorem below_b2 {w w' : World} {o o' : Obj} (h : Below ((w.alloc o).alloc o').heap.size ((w.alloc o).alloc o') w') : Below w.heap.size w w' := Below.via h (Below.alloc (Below.alloc (Below.refl _ _) (Nat.le_refl _) _) (by simp) _) (by simp; omega)
theorem box2_keep {W0 W W' : World} {g : Nat} {u1 u2 : Value} (h : (W.cell? ⟨g, 0, none⟩ = some u1 ∧ W.cell? ⟨g, 1, none⟩ = some u2) ∧ Below W0.heap.size W0 W) (hb : Below W.heap.size W W') : (W'.cell? ⟨g, 0, none⟩ = some u1 ∧ W'.cell? ⟨g, 1, none⟩ = some u2) ∧ Below W0.heap.size W0 W' := by
  obtain ⟨⟨a0, a1⟩, hB⟩ := h
  have l0 := cell_lt a0
  exact ⟨⟨(hb.cell (p := ⟨_, _, none⟩) l0).trans a0, (hb.cell (p := ⟨_, _, none⟩) l0).trans a1⟩, Below.via hb hB hB.size⟩
theorem box2_drew {W0 W : World} {g : Nat} {u1 u2 : Value} (h : (W.cell? ⟨g, 0, none⟩ = some u1 ∧ W.cell? ⟨g, 1, none⟩ = some u2) ∧ Below W0.heap.size W0 W) : (W.drew.cell? ⟨g, 0, none⟩ = some u1 ∧ W.drew.cell? ⟨g, 1, none⟩ = some u2) ∧ Below W0.heap.size W0 W.drew := ⟨h.1, Below.drew h.2⟩
end Go.Proofs.Yteeplmnjipddaaa
