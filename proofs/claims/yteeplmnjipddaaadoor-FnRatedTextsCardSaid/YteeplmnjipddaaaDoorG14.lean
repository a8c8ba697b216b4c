/- Valid meetings: both functions, and the law. No conditions beyond lengths. -/
import Derived.Test.YteeplmnjipddaaaDoorG00
import Derived.BigQuiet
import Derived.Deep.QuietTactic
import Derived.Test.YteeplmnjipddaaaDoorG01
/- Rounds, the other player of a round, byes: both functions. Conditions: 2 to 12 players. -/
namespace Go.Proofs.YteeplmnjipddaaaDoor
set_option linter.unusedSimpArgs false
set_option linter.unusedVariables false
open Go.RowKit

def rdN (n : Nat) : Nat := if n % 2 = 0 then n - 1 else n
theorem rdN_bd {n : Nat} (h : 2 ≤ n) : 1 ≤ rdN n ∧ rdN n ≤ n ∧ n ≤ rdN n + 1 := by unfold rdN; split <;> omega
theorem rdN_int {n : Nat} (h : 2 ≤ n) : (n : Int) - 1 + (n : Int) % 2 = (rdN n : Int) := by unfold rdN; split <;> omega
/-- The first k below m with p k. -/
def firstN (m : Nat) (p : Nat → Bool) : Option Nat := (List.range m).find? p
theorem firstN_some {m k : Nat} {p : Nat → Bool} (hk : k < m) (h : p k = true) (hb : ∀ j, j < k → p j = false) : firstN m p = some k := by
  unfold firstN
  rw [List.find?_range_eq_some]
  exact ⟨h, by simpa using hk, fun j hj => by simp [hb j hj]⟩
theorem firstN_none {m : Nat} {p : Nat → Bool} (hb : ∀ j, j < m → p j = false) : firstN m p = none := by
  unfold firstN
  rw [List.find?_range_eq_none]
  intro j hj
  simp [hb j hj]
def othN (n r p : Nat) : Nat :=
  if p = rdN n then (firstN (rdN n) fun k => 2 * k % rdN n == r).getD 0
  else if (r + rdN n - p) % rdN n = p ∧ n % 2 = 0 then rdN n else (r + rdN n - p) % rdN n
theorem two_mod (k m : Nat) : 2 * (k : Int) % (m : Int) = ((2 * k % m : Nat) : Int) := by rw [Int.natCast_emod]; rfl
theorem oth_hit : ∀ n, n < 13 → ∀ r, r < rdN n → rdN n + 1 = n → ∃ k, k < rdN n ∧ 2 * k % rdN n = r := by decide +kernel
/-- Rounds: the number, the code. -/
def rcC (n : Int) : Int := if inB n 2 12 then (rdN n.toNat : Int) else 0
def rcE (n : Int) : Int := if inB n 2 12 then 0 else 2
theorem nat_of {n : Int} (h : inB n 2 12 = true) : ∃ k : Nat, n = k ∧ 2 ≤ k ∧ k ≤ 12 := by
  obtain ⟨h1, h2⟩ := inB_of h
  exact ⟨n.toNat, by omega, by omega, by omega⟩
/-- A number of players and a round of theirs. -/
def okR (n r : Int) : Bool := inB n 2 12 && inB r 0 ((rdN n.toNat : Int) - 1)
theorem okR_of {n r : Int} (h : okR n r = true) : ∃ k j : Nat, n = k ∧ r = j ∧ 2 ≤ k ∧ k ≤ 12 ∧ j < rdN k := by
  rw [okR, Bool.and_eq_true] at h
  obtain ⟨k, rfl, k1, k2⟩ := nat_of h.1
  obtain ⟨h1, h2⟩ := inB_of h.2
  simp only [Int.toNat_natCast] at h2
  exact ⟨k, r.toNat, rfl, by omega, k1, k2, by omega⟩
def codeR (n r : Int) : Int := if okR n r then 0 else 2
theorem codeR_t {n r : Int} (h : okR n r = true) : codeR n r = 0 := by rw [codeR, if_pos h]
theorem codeR_f {n r : Int} (h : okR n r = false) : codeR n r = 2 := by rw [codeR, h]; rfl
end Go.Proofs.YteeplmnjipddaaaDoor
/- Valid meetings: both functions, and the law. No conditions beyond lengths. -/
namespace Go.Proofs.YteeplmnjipddaaaDoor
set_option linter.unusedSimpArgs false
set_option linter.unusedVariables false
open Go.RowKit

theorem quiet_leftR {P : Program} {f : FuncId} {args : Array Value} {w : World} {n : Nat} {v : Value}
    (h : Calls P f args (w.drewN n) fun e w' => e = .returned v ∧ w.drewN n = w') : Calls P f args (w.drewN n) fun e w'' => e = .returned v ∧ ∃ m, w'' = w.drewN m :=
  h.mono fun _ _ ⟨he, hm⟩ => ⟨he, n, hm.symm⟩
def mtOk (m : Int) (zs : List Int) (k : Nat) : Bool := inB (zs.getD (k * 2) 0) 0 m && inB (zs.getD (k * 2 + 1) 0) 0 m && !(zs.getD (k * 2) 0 == zs.getD (k * 2 + 1) 0)
def validM (n : Int) (zs : List Int) : Bool := inB n 2 12 && decide (zs.length ≤ 300) && (List.range (zs.length / 2)).all (mtOk (wrap64 (n - 1)) zs)
theorem validM_n {n : Int} {zs : List Int} (h : inB n 2 12 = false) : validM n zs = false := by rw [validM, h]; rfl
theorem validM_len {n : Int} {zs : List Int} (h : 300 < zs.length) : validM n zs = false := by
  rw [validM, decide_eq_false (by omega), Bool.and_false]; rfl
theorem validM_at {n : Int} {zs : List Int} {k : Nat} (hk : k < zs.length / 2) (h : mtOk (wrap64 (n - 1)) zs k = false) : validM n zs = false := by
  rw [validM]
  have : (List.range (zs.length / 2)).all (mtOk (wrap64 (n - 1)) zs) = false := by
    rw [List.all_eq_false]
    exact ⟨k, List.mem_range.2 hk, by simp [h]⟩
  rw [this, Bool.and_false]
theorem validM_t {n : Int} {zs : List Int} {c : Nat} (hl : zs.length = c * 2) (h : ∀ k, k < c → mtOk (wrap64 (n - 1)) zs k = true) : validM n zs = (inB n 2 12 && decide ((c : Int) ≤ 150)) := by
  have : (List.range (zs.length / 2)).all (mtOk (wrap64 (n - 1)) zs) = true := by
    rw [List.all_eq_true]
    intro k hk
    exact h k (by rw [List.mem_range] at hk; omega)
  rw [validM, this, Bool.and_true]
  congr 1
  rw [Bool.eq_iff_iff]
  simp
  omega
end Go.Proofs.YteeplmnjipddaaaDoor
