/- RoundOf and the meeting of two players: both functions, and the law. No conditions. -/
import Derived.Test.YteeplmnjipddaaaPair2
namespace Go.Proofs.Yteeplmnjipddaaa
set_option linter.unusedSimpArgs false
set_option linter.unusedVariables false
open Go.RowKit

def firstB (n r a b : Nat) : Bool := if b = rdN n then r % 2 == 0 else (a + b) % 2 == 1
def meetA (n r a b : Nat) : Nat := if firstB n r a b then a else b
def meetB (n r a b : Nat) : Nat := if firstB n r a b then b else a
def rofN (n a b : Nat) : Nat := if b = rdN n then 2 * a % rdN n else (a + b) % rdN n
def rofChk (n a b : Nat) : Bool := decide (rofN n (min a b) (max a b) < rdN n) && (othN n (rofN n (min a b) (max a b)) a == b) && (List.range (rofN n (min a b) (max a b))).all fun r => othN n r a != b
theorem rof_chk : ((List.range 13).all fun n => decide (n < 2) || (List.range n).all fun a => (List.range n).all fun b => (a == b) || rofChk n a b) = true := by decide +kernel
theorem rof_law {n a b : Nat} (h : 2 ≤ n) (h2 : n ≤ 12) (ha : a < n) (hb : b < n) (hab : a ≠ b) : rofN n (min a b) (max a b) < rdN n ∧ othN n (rofN n (min a b) (max a b)) a = b ∧ ∀ r, r < rofN n (min a b) (max a b) → othN n r a ≠ b := by
  have h0 := rof_chk
  rw [List.all_eq_true] at h0
  have h1 := h0 n (List.mem_range.2 (by omega))
  rw [decide_eq_false (by omega), Bool.false_or, List.all_eq_true] at h1
  have h3 := h1 a (List.mem_range.2 ha)
  rw [List.all_eq_true] at h3
  have h4 := h3 b (List.mem_range.2 hb)
  rw [beq_eq_false_iff_ne.2 hab, Bool.false_or, rofChk, Bool.and_eq_true, Bool.and_eq_true, List.all_eq_true] at h4
  obtain ⟨⟨c1, c2⟩, c3⟩ := h4
  exact ⟨of_decide_eq_true c1, by simpa using c2, fun r hr => by simpa using c3 r (List.mem_range.2 hr)⟩
theorem meetA_t {n r a b : Nat} (h : firstB n r a b = true) : meetA n r a b = a ∧ meetB n r a b = b := by rw [meetA, meetB, h]; exact ⟨rfl, rfl⟩
theorem meetA_f {n r a b : Nat} (h : firstB n r a b = false) : meetA n r a b = b ∧ meetB n r a b = a := by rw [meetA, meetB, h]; exact ⟨rfl, rfl⟩
set_option maxHeartbeats 400000 in
theorem l24First_any (n r a b : Nat) (w : World) (h : 2 ≤ n) (h2 : n ≤ 12) (hr : r ≤ 12) (ha : a ≤ 12) (hb : b ≤ 12) : Calls Try.prog 91 #[.int .i64 n, .int .i64 r, .int .i64 a, .int .i64 b] w fun e w' => e = .returned (.bool (firstB n r a b)) ∧ w = w' := by
  obtain ⟨m1, m2, m3⟩ := rdN_bd h
  by_cases hm : b = rdN n
  · have q1 : ((b : Int) == (rdN n : Int)) = true := by rw [beq_iff_eq]; omega
    have e : firstB n r a b = ((r : Int) % 2 == 0) := by
      rw [firstB, if_pos hm, Bool.eq_iff_iff, beq_iff_eq, beq_iff_eq]; omega
    have HE := Lib.hid e
    clear e hm
    go_enter Try.func91, Try.ntmps91
    go_wp2_with (go_at_call 84; refine (l24Rounds_any n _ h h2).mono ?_; rintro e w_ ⟨rfl, rfl⟩)
    go_ret
    exact ⟨by rw [HE.out]; rfl, rfl⟩
  · have q1 : ((b : Int) == (rdN n : Int)) = false := by rw [beq_eq_false_iff_ne]; omega
    have e : firstB n r a b = (((a : Int) + (b : Int)) % 2 == 1) := by
      rw [firstB, if_neg hm, Bool.eq_iff_iff, beq_iff_eq, beq_iff_eq]; omega
    have HE := Lib.hid e
    clear e hm
    go_enter Try.func91, Try.ntmps91
    go_wp2_with (go_at_call 84; refine (l24Rounds_any n _ h h2).mono ?_; rintro e w_ ⟨rfl, rfl⟩)
    go_ret
    exact ⟨by rw [HE.out]; rfl, rfl⟩
set_option maxHeartbeats 400000 in
theorem l24Meet_lt (n r a b : Nat) (w : World) (h : 2 ≤ n) (h2 : n ≤ 12) (hr : r ≤ 12) (hab : a < b) (hb : b ≤ 12) : Calls Try.prog 89 #[.int .i64 n, .int .i64 r, .int .i64 a, .int .i64 b] w fun e w' => e = .returned (.agg #[.int .i64 (meetA n r a b), .int .i64 (meetB n r a b)]) ∧ Below w.heap.size w w' := by
  cases hf : firstB n r a b
  · obtain ⟨e1, e2⟩ := meetA_f hf
    have H1 := Lib.hid e1
    have H2 := Lib.hid e2
    clear e1 e2
    go_enter Try.func89, Try.ntmps89
    go_wp2_with (go_at_call 91; refine (l24First_any n r a b _ h h2 hr (by omega) hb).mono ?_; rintro e w_ ⟨rfl, rfl⟩)
    go_returns
    exact ⟨by rw [H1.out, H2.out], by (repeat' (first | (with_reducible exact Below.refl _ _) | (with_reducible assumption) | (with_reducible refine Below.alloc ?_ ?_ _) | (with_reducible refine Below.drew ?_) | (with_reducible refine belowDrewN ?_ _) | (with_reducible refine Below.setCell ?_ ?_ _) | (with_reducible refine Below.via (by with_reducible assumption) ?_ ?_) | (with_reducible refine Below.viaD (by with_reducible assumption) ?_ ?_) | (with_reducible exact Below.size (by with_reducible assumption)) | go_size | (with_reducible refine Nat.le_trans ?_ (Below.size (by with_reducible assumption))) | (with_reducible refine Nat.le_trans ?_ (sizeAlloc _ _)) | (with_reducible refine Nat.le_trans ?_ (sizeSet _ _ _)) | (with_reducible refine Nat.le_trans ?_ (sizeDrew _))))⟩
  · obtain ⟨e1, e2⟩ := meetA_t hf
    have H1 := Lib.hid e1
    have H2 := Lib.hid e2
    clear e1 e2
    go_enter Try.func89, Try.ntmps89
    go_wp2_with (go_at_call 91; refine (l24First_any n r a b _ h h2 hr (by omega) hb).mono ?_; rintro e w_ ⟨rfl, rfl⟩)
    go_returns
    exact ⟨by rw [H1.out, H2.out], by (repeat' (first | (with_reducible exact Below.refl _ _) | (with_reducible assumption) | (with_reducible refine Below.alloc ?_ ?_ _) | (with_reducible refine Below.drew ?_) | (with_reducible refine belowDrewN ?_ _) | (with_reducible refine Below.setCell ?_ ?_ _) | (with_reducible refine Below.via (by with_reducible assumption) ?_ ?_) | (with_reducible refine Below.viaD (by with_reducible assumption) ?_ ?_) | (with_reducible exact Below.size (by with_reducible assumption)) | go_size | (with_reducible refine Nat.le_trans ?_ (Below.size (by with_reducible assumption))) | (with_reducible refine Nat.le_trans ?_ (sizeAlloc _ _)) | (with_reducible refine Nat.le_trans ?_ (sizeSet _ _ _)) | (with_reducible refine Nat.le_trans ?_ (sizeDrew _))))⟩
set_option maxHeartbeats 400000 in
theorem l24Meet_gt (n r a b : Nat) (w : World) (h : 2 ≤ n) (h2 : n ≤ 12) (hr : r ≤ 12) (hab : b < a) (hb : a ≤ 12) : Calls Try.prog 89 #[.int .i64 n, .int .i64 r, .int .i64 a, .int .i64 b] w fun e w' => e = .returned (.agg #[.int .i64 (meetA n r b a), .int .i64 (meetB n r b a)]) ∧ Below w.heap.size w w' := by
  cases hf : firstB n r b a
  · obtain ⟨e1, e2⟩ := meetA_f hf
    have H1 := Lib.hid e1
    have H2 := Lib.hid e2
    clear e1 e2
    go_enter Try.func89, Try.ntmps89
    go_wp2_with (go_at_call 91; refine (l24First_any n r b a _ h h2 hr (by omega) hb).mono ?_; rintro e w_ ⟨rfl, rfl⟩)
    go_returns
    exact ⟨by rw [H1.out, H2.out], by (repeat' (first | (with_reducible exact Below.refl _ _) | (with_reducible assumption) | (with_reducible refine Below.alloc ?_ ?_ _) | (with_reducible refine Below.drew ?_) | (with_reducible refine belowDrewN ?_ _) | (with_reducible refine Below.setCell ?_ ?_ _) | (with_reducible refine Below.via (by with_reducible assumption) ?_ ?_) | (with_reducible refine Below.viaD (by with_reducible assumption) ?_ ?_) | (with_reducible exact Below.size (by with_reducible assumption)) | go_size | (with_reducible refine Nat.le_trans ?_ (Below.size (by with_reducible assumption))) | (with_reducible refine Nat.le_trans ?_ (sizeAlloc _ _)) | (with_reducible refine Nat.le_trans ?_ (sizeSet _ _ _)) | (with_reducible refine Nat.le_trans ?_ (sizeDrew _))))⟩
  · obtain ⟨e1, e2⟩ := meetA_t hf
    have H1 := Lib.hid e1
    have H2 := Lib.hid e2
    clear e1 e2
    go_enter Try.func89, Try.ntmps89
    go_wp2_with (go_at_call 91; refine (l24First_any n r b a _ h h2 hr (by omega) hb).mono ?_; rintro e w_ ⟨rfl, rfl⟩)
    go_returns
    exact ⟨by rw [H1.out, H2.out], by (repeat' (first | (with_reducible exact Below.refl _ _) | (with_reducible assumption) | (with_reducible refine Below.alloc ?_ ?_ _) | (with_reducible refine Below.drew ?_) | (with_reducible refine belowDrewN ?_ _) | (with_reducible refine Below.setCell ?_ ?_ _) | (with_reducible refine Below.via (by with_reducible assumption) ?_ ?_) | (with_reducible refine Below.viaD (by with_reducible assumption) ?_ ?_) | (with_reducible exact Below.size (by with_reducible assumption)) | go_size | (with_reducible refine Nat.le_trans ?_ (Below.size (by with_reducible assumption))) | (with_reducible refine Nat.le_trans ?_ (sizeAlloc _ _)) | (with_reducible refine Nat.le_trans ?_ (sizeSet _ _ _)) | (with_reducible refine Nat.le_trans ?_ (sizeDrew _))))⟩
/-- RoundOf's arguments. -/
def okP (n a b : Int) : Bool := inB n 2 12 && inB a 0 (n - 1) && inB b 0 (n - 1) && !(a == b)
theorem okP_of {n a b : Int} (h : okP n a b = true) : ∃ k i j : Nat, n = k ∧ a = i ∧ b = j ∧ 2 ≤ k ∧ k ≤ 12 ∧ i < k ∧ j < k ∧ i ≠ j := by
  simp only [okP, Bool.and_eq_true, Bool.not_eq_true', beq_eq_false_iff_ne] at h
  obtain ⟨⟨⟨h1, h2⟩, h3⟩, h4⟩ := h
  obtain ⟨k, rfl, k1, k2⟩ := nat_of h1
  obtain ⟨a1, a2⟩ := inB_of h2
  obtain ⟨b1, b2⟩ := inB_of h3
  exact ⟨k, a.toNat, b.toNat, rfl, by omega, by omega, k1, k2, by omega, by omega, by omega⟩
def roC (n a b : Int) : Int := if okP n a b then (rofN n.toNat (min a.toNat b.toNat) (max a.toNat b.toNat) : Nat) else 0
def roB (n a b : Int) : Bool := if okP n a b then meetA n.toNat (rofN n.toNat (min a.toNat b.toNat) (max a.toNat b.toNat)) (min a.toNat b.toNat) (max a.toNat b.toNat) == a.toNat else false
def roE (n a b : Int) : Int := if okP n a b then 0 else 2
theorem ro_no {n a b : Int} (h : okP n a b = false) : roC n a b = 0 ∧ roB n a b = false ∧ roE n a b = 2 := by rw [roC, roB, roE, h]; exact ⟨rfl, rfl, rfl⟩
theorem ro_yes {n a b : Nat} (h : okP n a b = true) : roC n a b = (rofN n (min a b) (max a b) : Nat) ∧ roB n a b = (((meetA n (rofN n (min a b) (max a b)) (min a b) (max a b) : Nat) : Int) == (a : Int)) ∧ roE n a b = 0 := by
  rw [roC, roB, roE, h]
  refine ⟨rfl, ?_, rfl⟩
  rw [Bool.eq_iff_iff]
  simp
  omega
theorem rdN_le {n : Nat} (h : 2 ≤ n) : rdN n ≤ n := (rdN_bd h).2.1
end Go.Proofs.Yteeplmnjipddaaa
