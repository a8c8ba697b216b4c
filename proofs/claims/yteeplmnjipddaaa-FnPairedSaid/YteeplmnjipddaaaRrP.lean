/- All rounds together: what everybody's meetings are, counted. No conditions. -/
import Derived.Test.YteeplmnjipddaaaRobin
import Derived.Test.YteeplmnjipddaaaMeet3
namespace Go.Proofs.Yteeplmnjipddaaa
set_option linter.unusedSimpArgs false
set_option linter.unusedVariables false
open Go.RowKit

def allR (n : Nat) : Nat → List Int
  | 0 => []
  | k + 1 => allR n k ++ rrS n k n
/-- How often two players meet in the first k meetings. -/
def timesR (zs : List Int) (a b : Int) : Nat → Nat
  | 0 => 0
  | k + 1 => timesR zs a b k + (if (zs.getD (k * 2) 0 = a ∧ zs.getD (k * 2 + 1) 0 = b) ∨ (zs.getD (k * 2) 0 = b ∧ zs.getD (k * 2 + 1) 0 = a) then 1 else 0)
theorem timesR_le (zs : List Int) (a b : Int) (k : Nat) : timesR zs a b k ≤ k := by
  induction k with
  | zero => exact Nat.le_refl _
  | succ k ih => rw [timesR]; split <;> omega
def timesF (a b : Int) : List Int → Nat
  | x :: y :: r => (if (x = a ∧ y = b) ∨ (x = b ∧ y = a) then 1 else 0) + timesF a b r
  | _ => 0
theorem timesF_snoc (a b x y : Int) : ∀ (k : Nat) (l : List Int), l.length = k * 2 → timesF a b (l ++ [x, y]) = timesF a b l + (if (x = a ∧ y = b) ∨ (x = b ∧ y = a) then 1 else 0)
  | 0, l, h => by
    obtain rfl : l = [] := List.eq_nil_of_length_eq_zero (by omega)
    simp [timesF]
  | k + 1, l, h => by
    match l, h with
    | [_], h => simp at h; omega
    | p :: q :: r, h =>
      have := timesF_snoc a b x y k r (by simp at h; omega)
      simp only [List.cons_append, timesF, this]
      omega
theorem timesR_F (zs : List Int) (a b : Int) : ∀ k, k * 2 ≤ zs.length → timesR zs a b k = timesF a b (zs.take (k * 2))
  | 0, _ => by simp [timesR, timesF]
  | k + 1, h => by
    have ih := timesR_F zs a b k (by omega)
    have h1 : k * 2 < zs.length := by omega
    have h2 : k * 2 + 1 < zs.length := by omega
    have e : zs.take ((k + 1) * 2) = zs.take (k * 2) ++ [zs.getD (k * 2) 0, zs.getD (k * 2 + 1) 0] := by
      rw [show (k + 1) * 2 = k * 2 + 1 + 1 by omega, List.take_add_one, List.take_add_one, List.getElem?_eq_getElem h1, List.getElem?_eq_getElem h2, List.append_assoc]
      simp [List.getD_eq_getElem?_getD, h1, h2]
    rw [timesR, e, timesF_snoc a b _ _ k _ (by rw [List.length_take]; omega), ih]
def goodN (n : Nat) : Bool := (List.range n).all (fun a => (List.range n).all (fun b => !(decide (a < b)) || decide (timesF a b (allR n (rdN n)) = 1)))
theorem good_all : (List.range 13).all (fun n => decide (n < 2) || goodN n) = true := by decide +kernel
theorem len_all : (List.range 13).all (fun n => decide (n < 2) || (List.range (rdN n)).all (fun k => decide ((rrS n k n).length = n / 2 * 2))) = true := by decide +kernel
theorem valid_all : (List.range 13).all (fun n => decide (n < 2) || validM n (allR n (rdN n))) = true := by decide +kernel
def firstsF (p : Int) : List Int → Nat
  | x :: _ :: r => (if x = p then 1 else 0) + firstsF p r
  | _ => 0
theorem first_all : (List.range 13).all (fun n => decide (n < 2) || (List.range n).all (fun a => decide ((((n : Int) - 1) / 2 - 1) ≤ ((fstL n (allR n (rdN n)) (n / 2 * rdN n)).getD a 0)) && decide (((fstL n (allR n (rdN n)) (n / 2 * rdN n)).getD a 0) ≤ (n : Int) / 2 + 1))) = true := by decide +kernel
theorem of_all {p : Nat → Bool} (h : (List.range 13).all (fun n => decide (n < 2) || p n) = true) {n : Nat} (h0 : 2 ≤ n) (h1 : n ≤ 12) : p n = true := by
  have := List.all_eq_true.1 h n (List.mem_range.2 (by omega))
  rw [decide_eq_false (by omega), Bool.false_or] at this
  exact this
theorem rr_len {n k : Nat} (h0 : 2 ≤ n) (h1 : n ≤ 12) (hk : k < rdN n) : (rrS n k n).length = n / 2 * 2 := by
  have := List.all_eq_true.1 (of_all len_all h0 h1) k (List.mem_range.2 hk)
  simpa using this
theorem allR_len {n : Nat} (h0 : 2 ≤ n) (h1 : n ≤ 12) : ∀ k, k ≤ rdN n → (allR n k).length = n / 2 * k * 2
  | 0, _ => by simp [allR]
  | k + 1, hk => by
    have e : n / 2 * (k + 1) = n / 2 * k + n / 2 := Nat.mul_succ _ _
    rw [allR, List.length_append, allR_len h0 h1 k (by omega), rr_len h0 h1 (by omega)]
    omega
theorem rr_valid {n : Nat} (h0 : 2 ≤ n) (h1 : n ≤ 12) : validM n (allR n (rdN n)) = true := of_all valid_all h0 h1
theorem rr_times {n a b : Nat} (h0 : 2 ≤ n) (h1 : n ≤ 12) (ha : a < b) (hb : b < n) : timesR (allR n (rdN n)) a b (n / 2 * rdN n) = 1 := by
  have h := of_all good_all h0 h1
  have h2 := List.all_eq_true.1 (List.all_eq_true.1 h a (List.mem_range.2 (by omega))) b (List.mem_range.2 hb)
  rw [decide_eq_true ha] at h2
  have hl := allR_len h0 h1 (rdN n) (Nat.le_refl _)
  rw [timesR_F _ _ _ _ (by omega), List.take_of_length_le (by omega)]
  simpa using h2
theorem rr_first {n a : Nat} (h0 : 2 ≤ n) (h1 : n ≤ 12) (ha : a < n) : ((n : Int) - 1) / 2 - 1 ≤ (fstL n (allR n (rdN n)) (n / 2 * rdN n)).getD a 0 ∧ (fstL n (allR n (rdN n)) (n / 2 * rdN n)).getD a 0 ≤ (n : Int) / 2 + 1 := by
  have h2 := List.all_eq_true.1 (of_all first_all h0 h1) a (List.mem_range.2 ha)
  rw [Bool.and_eq_true, decide_eq_true_eq, decide_eq_true_eq] at h2
  exact h2
end Go.Proofs.Yteeplmnjipddaaa
