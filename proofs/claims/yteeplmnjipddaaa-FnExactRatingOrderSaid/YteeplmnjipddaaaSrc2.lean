/- The reference's source of choices beside memory that is made. No conditions. -/
import Derived.Test.YteeplmnjipddaaaSrc1
namespace Go.Proofs.Yteeplmnjipddaaa
set_option linter.unusedSimpArgs false
set_option linter.unusedVariables false
open Go.RowKit

theorem Src.over {w w' : World} {b n c M : Nat} {A : Option Addr} {zs : List Int} {row : Option Nat} (h : Src w b A n c M zs) (hg : w.grownBy w' row) (hb : row ≠ some b) (hA : ∀ b' off, A = some ⟨b', off, none⟩ → 0 < n → row ≠ some b') : Src w' b A n c M zs := by
  have hlt := h.lt
  obtain ⟨⟨a, s, ha, s0, s1, hk⟩, hsl, hbd, hap⟩ := h
  refine ⟨⟨a, s, ha, s0, s1, (hg.block b hlt (fun e => hb e.symm)).trans hk⟩, ?_, hbd, hap⟩
  refine ⟨hsl.1, fun hn => ?_⟩
  obtain ⟨b', off, e, hb', hc⟩ := hsl.2 hn
  have hk' := hg.block b' hb' (fun e' => hA b' off e hn e'.symm)
  refine ⟨b', off, e, Nat.lt_of_lt_of_le hb' hg.size, fun j u hu => ?_⟩
  rw [← hc j u hu]
  simp only [World.cell?, hk']
theorem Src.later {w w' : World} {b n c M : Nat} {A : Option Addr} {zs : List Int} (h : Src w b A n c M zs) (hb : Below w.heap.size w w') : Src w' b A n c M zs := by
  obtain ⟨⟨a, s, ha, s0, s1, hk⟩, hsl, hbd, hap⟩ := h
  exact ⟨⟨a, s, ha, s0, s1, hk.later hb⟩, hsl.later hb, hbd, hap⟩
/-- A row of the call's own beside the source. -/
theorem own_over {w w' : World} {base : Nat} {e : TypeId} {size : Nat} {v : Value} {n : Nat} {xs : List Value} {b : Nat} (h : w.ownsRow base e size v n xs) (hg : w.grownBy w' (some b)) (hne : v.ownBlock ≠ some b) : w'.ownsRow base e size v n xs := h.kept hg (Or.inr hne)
/-- A source above a base: behind a draw. -/
theorem below_src {B b : Nat} {a w w' : World} (h : Below B a w) (hg : w.grownBy w' (some b)) (h1 : B ≤ b) (h2 : B ≤ w.heap.size) : Below B a w' := grown_below h hg h1 h2
end Go.Proofs.Yteeplmnjipddaaa
