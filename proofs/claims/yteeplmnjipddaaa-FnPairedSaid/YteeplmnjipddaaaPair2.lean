/- ByeOf: both functions, and the law. No conditions. -/
import Derived.Test.YteeplmnjipddaaaPair1
namespace Go.Proofs.Yteeplmnjipddaaa
set_option linter.unusedSimpArgs false
set_option linter.unusedVariables false
open Go.RowKit

def byeN (n r : Nat) : Option Nat := firstN n fun a => othN n r a == a
theorem bye_even : ∀ n, n < 13 → ∀ r, r < rdN n → n % 2 = 0 → byeN n r = none := by decide +kernel
theorem bye_odd : ∀ n, n < 13 → ∀ r, r < rdN n → n % 2 = 1 → byeN n r = firstN n fun a => 2 * a % n == r := by decide +kernel
def byeC (n r : Int) : Int := if okR n r then ((byeN n.toNat r.toNat).getD 0 : Nat) else 0
def byeE (n r : Int) : Int := if okR n r then (if (byeN n.toNat r.toNat).isSome then 0 else 3) else 2
theorem bye_no {n r : Int} (h : okR n r = false) : byeC n r = 0 ∧ byeE n r = 2 := by rw [byeC, byeE, h]; exact ⟨rfl, rfl⟩
theorem bye_none {n r : Nat} (h : okR n r = true) (hb : byeN n r = none) : byeC n r = 0 ∧ byeE n r = 3 := by
  rw [byeC, byeE, h, Int.toNat_natCast, Int.toNat_natCast, hb]; exact ⟨rfl, rfl⟩
theorem bye_some {n r a : Nat} (h : okR n r = true) (hb : byeN n r = some a) : byeC n r = a ∧ byeE n r = 0 := by
  rw [byeC, byeE, h, Int.toNat_natCast, Int.toNat_natCast, hb]; exact ⟨rfl, rfl⟩
theorem oth_bd {n r p : Nat} (h : 2 ≤ n) : othN n r p ≤ n := by
  obtain ⟨m1, m2, m3⟩ := rdN_bd h
  unfold othN
  split
  · generalize hf : firstN (rdN n) (fun k => 2 * k % rdN n == r) = f
    cases f with
    | none => exact Nat.zero_le _
    | some k =>
      unfold firstN at hf
      rw [List.find?_range_eq_some] at hf
      have := hf.2.1
      simp at this
      exact Nat.le_trans (Nat.le_of_lt this) m2
  · split
    · exact m2
    · have := Nat.mod_lt (r + rdN n - p) (show 0 < rdN n by omega); omega

end Go.Proofs.Yteeplmnjipddaaa
