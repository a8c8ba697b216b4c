/- Go's stable sort at this seat: merges. Conditions: elements of one cell, at most 1000000. -/
import Derived.Test.YteeplmnjipddaaaSym1
import Derived.Deep.DeepCutAuto
namespace Go.Proofs.Yteeplmnjipddaaa
set_option linter.unusedSimpArgs false
set_option linter.unusedVariables false
open Go.Shelf Go.RowKit Go.Lib Go.Sort

theorem mid_w {i j h : Nat} (hs : i + j ≤ 2000000) (hh : (i + j) / 2 = h) : IntKind.i64.wrap ((i : Int) + (j : Int)) = (i : Int) + (j : Int) ∧ IntKind.u64.wrap ((i : Int) + (j : Int)) = (i : Int) + (j : Int) ∧ IntKind.i64.wrap (((i : Int) + (j : Int)) / 2) = (h : Int) := by
  refine ⟨IntWalk.i64_in _ (by omega), ?_, ?_⟩
  · simp [IntKind.wrap, IntKind.bits, IntKind.signed]; omega
  · rw [IntWalk.i64_in _ (by omega)]; omega
/-- What a merge leaves. -/
def SymQ {α : Type} [Inhabited α] (enc : α → Value) (lt2 : α → α → Bool) (blk off n a b : Nat) (w0 : World) (d : Array α) (W : World) (e : Ending) (w' : World) : Prop :=
  e = .returned (.tuple #[]) ∧ KpB blk W w' ∧ ∃ d', SW enc w0 blk off d' w' ∧ d'.size = n ∧ PermIn a b d d' ∧ SortedIn lt2 a b d'
/-- One place goes to the right of the places behind it. -/
structure ShR {α : Type} [Inhabited α] (a k : Nat) (d d' : Array α) : Prop where
  lo : ∀ x, a ≤ x → x < k → d'[x]! = d[x + 1]!
  at_ : d'[k]! = d[a]!
  o : ∀ x, (x < a ∨ k < x) → d'[x]! = d[x]!
theorem ShR.zero {α : Type} [Inhabited α] (a : Nat) (d : Array α) : ShR a a d d := ⟨fun x h1 h2 => by omega, rfl, fun _ _ => rfl⟩
theorem ShR.step {α : Type} [Inhabited α] {a k : Nat} {d d' : Array α} (h : ShR a k d d') (hak : a ≤ k) (hk : k + 1 < d'.size) : ShR a (k + 1) d (swp d' k (k + 1)) := by
  refine ⟨fun x h1 h2 => ?_, ?_, fun x hx => ?_⟩
  · by_cases e : x = k
    · subst e
      rw [swp_left _ _ _ (by omega) (by omega), h.o _ (by omega)]
    · rw [swp_other _ _ _ _ e (by omega)]; exact h.lo x h1 (by omega)
  · rw [swp_right _ _ _ (by omega)]; exact h.at_
  · rw [swp_other _ _ _ _ (by omega) (by omega)]; exact h.o x (by omega)
/-- One place goes to the left of the places ahead of it. -/
structure ShL {α : Type} [Inhabited α] (m k : Nat) (d d' : Array α) : Prop where
  hi : ∀ x, k < x → x ≤ m → d'[x]! = d[x - 1]!
  at_ : d'[k]! = d[m]!
  o : ∀ x, (x < k ∨ m < x) → d'[x]! = d[x]!
theorem ShL.zero {α : Type} [Inhabited α] (m : Nat) (d : Array α) : ShL m m d d := ⟨fun x h1 h2 => by omega, rfl, fun _ _ => rfl⟩
theorem ShL.step {α : Type} [Inhabited α] {m k : Nat} {d d' : Array α} (h : ShL m (k + 1) d d') (hm : k + 1 ≤ m) (hk : m < d'.size) : ShL m k d (swp d' (k + 1) k) := by
  refine ⟨fun x h1 h2 => ?_, ?_, fun x hx => ?_⟩
  · by_cases e : x = k + 1
    · subst e
      rw [swp_left _ _ _ (by omega) (by omega), h.o _ (by omega)]
      exact at_eq d (by omega)
    · rw [swp_other _ _ _ _ e (by omega)]; exact h.hi x (by omega) h2
  · rw [swp_right _ _ _ (by omega)]; exact h.at_
  · rw [swp_other _ _ _ _ (by omega) (by omega)]; exact h.o x (by omega)
end Go.Proofs.Yteeplmnjipddaaa
