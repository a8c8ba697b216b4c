/- Valid meetings: both functions, and the law. No conditions beyond lengths. -/
import Derived.Test.YtlogcbiebpfmlaaPair1
import Derived.Test.YtlogcbiebpfmlaaMeetingS
namespace Go.Proofs.Ytlogcbiebpfmlaa
set_option linter.unusedSimpArgs false
set_option linter.unusedVariables false
open Go.RowKit

theorem quiet_leftR {P : Program} {f : FuncId} {args : Array Value} {w : World} {n : Nat} {v : Value}
    (h : Calls P f args (w.drewN n) fun e w' => e = .returned v ∧ w.drewN n = w') : Calls P f args (w.drewN n) fun e w'' => e = .returned v ∧ ∃ m, w'' = w.drewN m :=
  h.mono fun _ _ ⟨he, hm⟩ => ⟨he, n, hm.symm⟩
def mtOk (m : Int) (zs : List Int) (k : Nat) : Bool := inB (zs.getD (k * 2) 0) 0 m && inB (zs.getD (k * 2 + 1) 0) 0 m && !(zs.getD (k * 2) 0 == zs.getD (k * 2 + 1) 0)
def validM (n : Int) (zs : List Int) : Bool := inB n 2 12 && decide (zs.length ≤ 300) && (List.range (zs.length / 2)).all (mtOk (wrap64 (n - 1)) zs)
theorem validM_n {n : Int} {zs : List Int} (h : inB n 2 12 = false) : validM n zs = false := by rw [validM, h]; rfl
theorem validM_len {n : Int} {zs : List Int} (h : 300 < zs.length) : validM n zs = false := by
  rw [validM, decide_eq_false (by omega), Bool.and_false]; rfl
theorem validM_at {n : Int} {zs : List Int} {k : Nat} (hk : k < zs.length / 2) (h : mtOk (wrap64 (n - 1)) zs k = false) : validM n zs = false := by
  rw [validM]
  have : (List.range (zs.length / 2)).all (mtOk (wrap64 (n - 1)) zs) = false := by
    rw [List.all_eq_false]
    exact ⟨k, List.mem_range.2 hk, by simp [h]⟩
  rw [this, Bool.and_false]
theorem validM_t {n : Int} {zs : List Int} {c : Nat} (hl : zs.length = c * 2) (h : ∀ k, k < c → mtOk (wrap64 (n - 1)) zs k = true) : validM n zs = (inB n 2 12 && decide ((c : Int) ≤ 150)) := by
  have : (List.range (zs.length / 2)).all (mtOk (wrap64 (n - 1)) zs) = true := by
    rw [List.all_eq_true]
    intro k hk
    exact h k (by rw [List.mem_range] at hk; omega)
  rw [validM, this, Bool.and_true]
  congr 1
  rw [Bool.eq_iff_iff]
  simp
  omega
end Go.Proofs.Ytlogcbiebpfmlaa
