/- Captures: the seeds behind the captures, by the reference. Conditions: lengths below 2^20. -/
import Derived.Test.YtcfbihponecblaaG21
namespace Go.Proofs.Ytcfbihponecblaa
set_option linter.unusedSimpArgs false
set_option linter.unusedVariables false
open Go.RowKit

theorem sw_keep {wb W W' : World} {b2 o2 : Nat} {v0 v1 v2 v3 : Value} (hb : Below W.heap.size W W') (h : ((W.cell? ⟨b2, o2, none⟩ = some v0 ∧ W.cell? ⟨b2, o2 + 1, none⟩ = some v1) ∧ (W.cell? ⟨b2, o2 + 2, none⟩ = some v2 ∧ W.cell? ⟨b2, o2 + 3, none⟩ = some v3)) ∧ Below wb.heap.size wb W) : ((W'.cell? ⟨b2, o2, none⟩ = some v0 ∧ W'.cell? ⟨b2, o2 + 1, none⟩ = some v1) ∧ (W'.cell? ⟨b2, o2 + 2, none⟩ = some v2 ∧ W'.cell? ⟨b2, o2 + 3, none⟩ = some v3)) ∧ Below wb.heap.size wb W' := by
  obtain ⟨⟨⟨a0, a1⟩, ⟨a2, a3⟩⟩, hB⟩ := h
  have l0 := cell_lt a0
  exact ⟨⟨⟨(hb.cell (p := ⟨_, _, none⟩) l0).trans a0, (hb.cell (p := ⟨_, _, none⟩) l0).trans a1⟩, ⟨(hb.cell (p := ⟨_, _, none⟩) l0).trans a2, (hb.cell (p := ⟨_, _, none⟩) l0).trans a3⟩⟩, Below.via hb hB hB.size⟩
theorem sw_drew {wb W : World} {b2 o2 : Nat} {v0 v1 v2 v3 : Value} (h : ((W.cell? ⟨b2, o2, none⟩ = some v0 ∧ W.cell? ⟨b2, o2 + 1, none⟩ = some v1) ∧ (W.cell? ⟨b2, o2 + 2, none⟩ = some v2 ∧ W.cell? ⟨b2, o2 + 3, none⟩ = some v3)) ∧ Below wb.heap.size wb W) : ((W.drew.cell? ⟨b2, o2, none⟩ = some v0 ∧ W.drew.cell? ⟨b2, o2 + 1, none⟩ = some v1) ∧ (W.drew.cell? ⟨b2, o2 + 2, none⟩ = some v2 ∧ W.drew.cell? ⟨b2, o2 + 3, none⟩ = some v3)) ∧ Below wb.heap.size wb W.drew := ⟨h.1, Below.drew h.2⟩
theorem sw_alloc {wb W : World} {b2 o2 : Nat} {v0 v1 v2 v3 : Value} (h : ((W.cell? ⟨b2, o2, none⟩ = some v0 ∧ W.cell? ⟨b2, o2 + 1, none⟩ = some v1) ∧ (W.cell? ⟨b2, o2 + 2, none⟩ = some v2 ∧ W.cell? ⟨b2, o2 + 3, none⟩ = some v3)) ∧ Below wb.heap.size wb W) (o : Obj) : (((W.alloc o).cell? ⟨b2, o2, none⟩ = some v0 ∧ (W.alloc o).cell? ⟨b2, o2 + 1, none⟩ = some v1) ∧ ((W.alloc o).cell? ⟨b2, o2 + 2, none⟩ = some v2 ∧ (W.alloc o).cell? ⟨b2, o2 + 3, none⟩ = some v3)) ∧ Below wb.heap.size wb (W.alloc o) := sw_keep (boxed_ _ _) h
theorem sw_set {wb W : World} {b2 o2 : Nat} {v0 v1 v2 v3 : Value} (h : ((W.cell? ⟨b2, o2, none⟩ = some v0 ∧ W.cell? ⟨b2, o2 + 1, none⟩ = some v1) ∧ (W.cell? ⟨b2, o2 + 2, none⟩ = some v2 ∧ W.cell? ⟨b2, o2 + 3, none⟩ = some v3)) ∧ Below wb.heap.size wb W) (p : Addr) (u : Value) (n1 : p.block ≠ b2) (n2 : wb.heap.size ≤ p.block) : (((W.setCell p u).cell? ⟨b2, o2, none⟩ = some v0 ∧ (W.setCell p u).cell? ⟨b2, o2 + 1, none⟩ = some v1) ∧ ((W.setCell p u).cell? ⟨b2, o2 + 2, none⟩ = some v2 ∧ (W.setCell p u).cell? ⟨b2, o2 + 3, none⟩ = some v3)) ∧ Below wb.heap.size wb (W.setCell p u) := by
  have e : ∀ k : Nat, (W.setCell p u).cell? ⟨b2, k, none⟩ = W.cell? ⟨b2, k, none⟩ := fun k => World.cell?_setCell_other _ _ _ _ (fun e => n1 (by rw [e]))
  exact ⟨⟨⟨(e _).trans h.1.1.1, (e _).trans h.1.1.2⟩, ⟨(e _).trans h.1.2.1, (e _).trans h.1.2.2⟩⟩, Below.setCell h.2 n2 u⟩
theorem cell_set1 {W : World} {b o g i : Nat} {u x : Value} (h : W.cell? ⟨b, o, none⟩ = some u) (n1 : b ≠ g) : (W.setCell ⟨g, i, none⟩ x).cell? ⟨b, o, none⟩ = some u :=
  (World.cell?_setCell_other _ _ _ _ (fun e => by injection e with e1; first | exact n1 e1 | exact n1 e1.symm)).trans h
end Go.Proofs.Ytcfbihponecblaa
