/- Firsts: both functions, and the law. No conditions beyond lengths. -/
import Derived.Test.YtbepfonpfnllkaaDoorG01
import Derived.Test.YtbepfonpfnllkaaDoorG12
import Derived.Test.YtbepfonpfnllkaaDoorG04
/- Valid meetings: both functions, and the law. No conditions beyond lengths. -/
namespace Go.Proofs.YtbepfonpfnllkaaDoor
set_option linter.unusedSimpArgs false
set_option linter.unusedVariables false
open Go.RowKit

theorem quiet_leftR {P : Program} {f : FuncId} {args : Array Value} {w : World} {n : Nat} {v : Value}
    (h : Calls P f args (w.drewN n) fun e w' => e = .returned v ∧ w.drewN n = w') : Calls P f args (w.drewN n) fun e w'' => e = .returned v ∧ ∃ m, w'' = w.drewN m :=
  h.mono fun _ _ ⟨he, hm⟩ => ⟨he, n, hm.symm⟩
def mtOk (m : Int) (zs : List Int) (k : Nat) : Bool := inB (zs.getD (k * 2) 0) 0 m && inB (zs.getD (k * 2 + 1) 0) 0 m && !(zs.getD (k * 2) 0 == zs.getD (k * 2 + 1) 0)
def validM (n : Int) (zs : List Int) : Bool := inB n 2 12 && decide (zs.length ≤ 300) && (List.range (zs.length / 2)).all (mtOk (wrap64 (n - 1)) zs)
theorem validM_n {n : Int} {zs : List Int} (h : inB n 2 12 = false) : validM n zs = false := by rw [validM, h]; rfl
theorem validM_len {n : Int} {zs : List Int} (h : 300 < zs.length) : validM n zs = false := by
  rw [validM, decide_eq_false (by omega), Bool.and_false]; rfl
theorem validM_at {n : Int} {zs : List Int} {k : Nat} (hk : k < zs.length / 2) (h : mtOk (wrap64 (n - 1)) zs k = false) : validM n zs = false := by
  rw [validM]
  have : (List.range (zs.length / 2)).all (mtOk (wrap64 (n - 1)) zs) = false := by
    rw [List.all_eq_false]
    exact ⟨k, List.mem_range.2 hk, by simp [h]⟩
  rw [this, Bool.and_false]
theorem validM_t {n : Int} {zs : List Int} {c : Nat} (hl : zs.length = c * 2) (h : ∀ k, k < c → mtOk (wrap64 (n - 1)) zs k = true) : validM n zs = (inB n 2 12 && decide ((c : Int) ≤ 150)) := by
  have : (List.range (zs.length / 2)).all (mtOk (wrap64 (n - 1)) zs) = true := by
    rw [List.all_eq_true]
    intro k hk
    exact h k (by rw [List.mem_range] at hk; omega)
  rw [validM, this, Bool.and_true]
  congr 1
  rw [Bool.eq_iff_iff]
  simp
  omega
end Go.Proofs.YtbepfonpfnllkaaDoor
/- Firsts: both functions, and the law. No conditions beyond lengths. -/
namespace Go.Proofs.YtbepfonpfnllkaaDoor
set_option linter.unusedSimpArgs false
set_option linter.unusedVariables false
open Go.RowKit

theorem validM_of {n : Int} {zs : List Int} (h : validM n zs = true) : ∃ k : Nat, n = k ∧ 2 ≤ k ∧ k ≤ 12 ∧ zs.length ≤ 300 ∧ ∀ j, j < zs.length / 2 → 0 ≤ zs.getD (j * 2) 0 ∧ zs.getD (j * 2) 0 < k ∧ 0 ≤ zs.getD (j * 2 + 1) 0 ∧ zs.getD (j * 2 + 1) 0 < k ∧ zs.getD (j * 2) 0 ≠ zs.getD (j * 2 + 1) 0 := by
  rw [validM, Bool.and_eq_true, Bool.and_eq_true, List.all_eq_true] at h
  obtain ⟨⟨h1, h2⟩, h3⟩ := h
  obtain ⟨k, rfl, k1, k2⟩ := nat_of h1
  refine ⟨k, rfl, k1, k2, of_decide_eq_true h2, fun j hj => ?_⟩
  have hw : wrap64 ((k : Int) - 1) = (k : Int) - 1 := IntWalk.wrap64_in _ (by omega)
  have h4 := h3 j (List.mem_range.2 hj)
  rw [hw, mtOk, Bool.and_eq_true, Bool.and_eq_true] at h4
  obtain ⟨⟨c1, c2⟩, c3⟩ := h4
  have a1 := inB_of c1
  have a2 := inB_of c2
  simp at c3
  exact ⟨by omega, by omega, by omega, by omega, c3⟩
/-- How often each of n players has moved first in the first k meetings. -/
def fstL (n : Nat) (zs : List Int) : Nat → List Int
  | 0 => List.replicate n 0
  | k + 1 => (fstL n zs k).set (zs.getD (k * 2) 0).toNat ((fstL n zs k).getD (zs.getD (k * 2) 0).toNat 0 + 1)
theorem fstL_len (n : Nat) (zs : List Int) (k : Nat) : (fstL n zs k).length = n := by
  induction k with
  | zero => simp [fstL]
  | succ k ih => rw [fstL, List.length_set, ih]
theorem fstL_bd (n : Nat) (zs : List Int) (k d : Nat) : 0 ≤ (fstL n zs k).getD d 0 ∧ (fstL n zs k).getD d 0 ≤ k := by
  induction k generalizing d with
  | zero =>
    simp only [fstL, List.getD_eq_getElem?_getD, List.getElem?_replicate]
    split <;> simp
  | succ k ih =>
    have h1 := ih d
    have h2 := ih (zs.getD (k * 2) 0).toNat
    simp only [fstL]
    rw [List.getD_eq_getElem?_getD, List.getElem?_set]
    split
    · split
      · simp only [Option.getD_some]; omega
      · simp; omega
    · rw [← List.getD_eq_getElem?_getD]; omega
theorem arr_get {zs : List Int} {d : Nat} (h : d < zs.length) : (zs.map (Value.int .i64)).toArray[d]? = some (.int .i64 (zs.getD d 0)) := by
  rw [List.getElem?_toArray]; exact getD_map_int h
theorem arr_set (zs : List Int) (d : Nat) (v : Int) : (zs.map (Value.int .i64)).toArray.setIfInBounds d (.int .i64 v) = ((zs.set d v).map (Value.int .i64)).toArray := by
  rw [List.setIfInBounds_toArray, ← List.map_set]
theorem info_int64' : (Tryd.prog.info? 2).map (fun i => (i.zero, i.size, i.bytes)) = some (some (.int .i64 0), 1, 8) := by kernel_rfl
def fstLst (n : Int) (zs : List Int) (c : Nat) : List Int := if validM n zs then fstL n.toNat zs c else []
def fstCode (n : Int) (zs : List Int) : Int := if validM n zs then 0 else 1
theorem fst_no {n : Int} {zs : List Int} {c : Nat} (h : validM n zs = false) : fstLst n zs c = [] ∧ fstCode n zs = 1 := by rw [fstLst, fstCode, h]; exact ⟨rfl, rfl⟩
theorem fst_yes {n : Nat} {zs : List Int} {c : Nat} (h : validM n zs = true) : fstLst n zs c = fstL n zs c ∧ fstCode n zs = 0 := by rw [fstLst, fstCode, h]; exact ⟨rfl, rfl⟩
/-- What FirstsOf returns: a list of its own, and the code. -/
def FirstsPost (P : Program) (n : Int) (zs : List Int) (c : Nat) (w : World) (e : Ending) (w' : World) : Prop :=
  ∃ (A : Option Addr) (g q : Nat), e = .returned (.tuple #[.slice A q q, .int .i64 (fstCode n zs)]) ∧ w.heap.size ≤ g ∧ Own w' g 2 1 A q (fstLst n zs c) ∧ q ≤ 12 ∧ Below w.heap.size w w'
theorem own_of_blk {w : World} {g : Nat} {t : TypeId} {n : Nat} {L : List Int} (h : Blk w g t (L.map (Value.int .i64)).toArray) (hl : L.length = n) : Own w g t 1 (some ⟨g, 0, none⟩) n L :=
  ⟨by omega, fun _ => ⟨rfl, [], by simpa using h⟩⟩
end Go.Proofs.YtbepfonpfnllkaaDoor
