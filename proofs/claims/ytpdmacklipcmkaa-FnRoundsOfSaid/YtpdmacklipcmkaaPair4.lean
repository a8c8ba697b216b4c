/- RoundOf: the valid case, and the law. No conditions. -/
import Derived.Test.YtpdmacklipcmkaaPair3
namespace Go.Proofs.Ytpdmacklipcmkaa
set_option linter.unusedSimpArgs false
set_option linter.unusedVariables false
open Go.RowKit

theorem field_M0 (x y : Int) (w : World) : (Instr.field 34 (.agg #[.int .i64 x, .int .i64 y]) 0).run Try.prog w = .ok (.int .i64 x) w := by kernel_rfl
set_option maxHeartbeats 1000000 in
theorem sRoundOf_yes (n a b : Nat) (w : World) (h : 2 ≤ n) (h2 : n ≤ 12) (ha : a < n) (hb : b < n) (hab : a ≠ b) (hok : okP n a b = true) :
    Calls Try.prog 19 #[.int .i64 n, .int .i64 a, .int .i64 b] w fun e w' => e = .returned (.tuple #[.int .i64 (roC n a b), .bool (roB n a b), .int .i64 (roE n a b)]) ∧ Below w.heap.size w w' := by
  obtain ⟨e1, e2, e3⟩ := ro_yes hok
  obtain ⟨l1, l2, l3⟩ := rof_law h h2 ha hb hab
  have hle := rdN_le h
  have HM : Hid ((∀ w1 : World, Calls Try.prog 39 #[.int .i64 n, .int .i64 (rofN n (min a b) (max a b)), .int .i64 a, .int .i64 b] w1 fun e w' => e = .returned (.agg #[.int .i64 (meetA n (rofN n (min a b) (max a b)) (min a b) (max a b)), .int .i64 (meetB n (rofN n (min a b) (max a b)) (min a b) (max a b))]) ∧ Below w1.heap.size w1 w')) := by
    unfold Hid
    intro w1
    rcases Nat.lt_or_ge a b with hlt | hge
    · rw [Nat.min_eq_left (by omega), Nat.max_eq_right (by omega)] at *
      exact l24Meet_lt n _ a b w1 h h2 (by omega) hlt (by omega)
    · rw [Nat.min_eq_right (by omega), Nat.max_eq_left (by omega)] at *
      exact l24Meet_gt n _ a b w1 h h2 (by omega) (by omega) (by omega)
  revert HM e1 e2 l1 l2 l3
  generalize rofN n (min a b) (max a b) = r
  generalize meetA n r (min a b) (max a b) = x
  generalize meetB n r (min a b) (max a b) = y
  intro e1 e2 l1 l2 l3 HM
  have H1 := Lib.hid e1
  have H2 := Lib.hid e2
  have H3 := Lib.hid e3
  have L2 := Lib.hid l2
  have L3 := Lib.hid l3
  simp only [okP, Bool.and_eq_true, Bool.not_eq_true'] at hok
  obtain ⟨⟨⟨q1, q2⟩, q3⟩, q4⟩ := hok
  clear e1 e2 e3 l2 l3 hab
  have hfd := fun w => field_M0 x y w
  go_enter Try.func19, Try.ntmps19
  go_wp2_with (first | (go_at_call 40; refine (l24Players_any _ _).mono ?_; rintro e w_ ⟨rfl, rfl⟩) | (go_at_call 43; refine (l00In_any _ _ _ _).mono ?_; rintro e w_ ⟨rfl, rfl⟩))
  go_loop [9] (fun i => ∃ k : Nat, k ≤ r ∧ i = .int .i64 k) (fun i => r - (intOf i).toNat)
  case atStart => exact ⟨0, Nat.zero_le _, rfl⟩
  case round =>
    obtain ⟨k, hk, rfl⟩ := hrel
    have ob := oth_bd (n := n) (r := k) (p := a) h
    by_cases hlt : k < r
    · have hne := L3.out k hlt
      have t1 : ((othN n k a : Int) == (b : Int)) = false := by rw [beq_eq_false_iff_ne]; omega
      have t2 : ((othN n k a : Int) != (b : Int)) = true := by rw [bne, t1]; rfl
      clear hne
      go_wp2_with (first | (go_at_call 38; refine (l24Other_any n k a _ h h2 (by omega) ha).mono ?_; rintro e w_ ⟨rfl, rfl⟩))
      go_round
      case rel => exact ⟨k + 1, by omega, by go_num⟩
      case measure => first | (simp [intOf]; done) | (simp [intOf]; omega)
    · obtain rfl : k = r := by omega
      have t1 : ((othN n k a : Int) == (b : Int)) = true := by rw [beq_iff_eq, L2.out]
      have t2 : ((othN n k a : Int) != (b : Int)) = false := by rw [bne, t1]; rfl
      go_wp2_with (first | (go_at_call 38; refine (l24Other_any n k a _ h h2 (by omega) ha).mono ?_; rintro e w_ ⟨rfl, rfl⟩) | (go_at_call 39; refine (HM.out _).mono ?_; rintro e w1 ⟨rfl, hb1⟩))
      go_ret3
      exact ⟨by rw [H1.out, H2.out, H3.out]; rfl, by (repeat' (first | (with_reducible exact Below.refl _ _) | (with_reducible assumption) | (with_reducible refine Below.alloc ?_ ?_ _) | (with_reducible refine Below.drew ?_) | (with_reducible refine belowDrewN ?_ _) | (with_reducible refine Below.setCell ?_ ?_ _) | (with_reducible refine Below.via (by with_reducible assumption) ?_ ?_) | (with_reducible refine Below.viaD (by with_reducible assumption) ?_ ?_) | (with_reducible exact Below.size (by with_reducible assumption)) | go_size | (with_reducible refine Nat.le_trans ?_ (Below.size (by with_reducible assumption))) | (with_reducible refine Nat.le_trans ?_ (sizeAlloc _ _)) | (with_reducible refine Nat.le_trans ?_ (sizeSet _ _ _)) | (with_reducible refine Nat.le_trans ?_ (sizeDrew _))))⟩
set_option maxHeartbeats 1000000 in
theorem RoundOf_yes (n a b : Nat) (w : World) (h : 2 ≤ n) (h2 : n ≤ 12) (ha : a < n) (hb : b < n) (hab : a ≠ b) (hok : okP n a b = true) :
    Calls Try.prog 18 #[.int .i64 n, .int .i64 a, .int .i64 b] w fun e w' => e = .returned (.tuple #[.int .i64 (roC n a b), .bool (roB n a b), .int .i64 (roE n a b)]) ∧ Below w.heap.size w w' := by
  obtain ⟨e1, e2, e3⟩ := ro_yes hok
  obtain ⟨l1, _, _⟩ := rof_law h h2 ha hb hab
  have hle := rdN_le h
  simp only [okP, Bool.and_eq_true, Bool.not_eq_true'] at hok
  obtain ⟨⟨⟨q1, q2⟩, q3⟩, q4⟩ := hok
  have H3 := Lib.hid e3
  rcases Nat.lt_or_ge a b with hlt | hge
  · rw [Nat.min_eq_left (by omega), Nat.max_eq_right (by omega)] at e1 e2 l1
    have H1 := Lib.hid e1
    have H2 := Lib.hid e2
    clear e1 e2 e3 hab
    have hfd := fun w => field_M0 (meetA n (rofN n a b) a b) (meetB n (rofN n a b) a b) w
    go_enter Try.func18, Try.ntmps18
    go_wp2_with (first | (go_at_call 32; refine (isCount_any _ _).mono ?_; rintro e w_ ⟨rfl, rfl⟩) | (go_at_call 33; refine (between_any _ _ _ _).mono ?_; rintro e w_ ⟨rfl, rfl⟩) | (go_at_call 35; refine (roundOf_any n a b _ h h2 hlt hb).mono ?_; rintro e w_ ⟨rfl, rfl⟩) | (go_at_call 36; refine (meeting_any n _ a b _ h h2 (by omega) hlt hb).mono ?_; rintro e w1 ⟨rfl, hb1⟩; obtain ⟨hc1, hf1, hl1, hz1⟩ := bfacts hb1; (try simp only [World.size_alloc, World.size_setCell, World.size_drew] at hz1)))
    go_ret3
    exact ⟨by rw [H1.out, H2.out, H3.out]; rfl, by (repeat' (first | (with_reducible exact Below.refl _ _) | (with_reducible assumption) | (with_reducible refine Below.alloc ?_ ?_ _) | (with_reducible refine Below.drew ?_) | (with_reducible refine belowDrewN ?_ _) | (with_reducible refine Below.setCell ?_ ?_ _) | (with_reducible refine Below.via (by with_reducible assumption) ?_ ?_) | (with_reducible refine Below.viaD (by with_reducible assumption) ?_ ?_) | (with_reducible exact Below.size (by with_reducible assumption)) | go_size | (with_reducible refine Nat.le_trans ?_ (Below.size (by with_reducible assumption))) | (with_reducible refine Nat.le_trans ?_ (sizeAlloc _ _)) | (with_reducible refine Nat.le_trans ?_ (sizeSet _ _ _)) | (with_reducible refine Nat.le_trans ?_ (sizeDrew _))))⟩
  · rw [Nat.min_eq_right (by omega), Nat.max_eq_left (by omega)] at e1 e2 l1
    have hgt : b < a := by omega
    have H1 := Lib.hid e1
    have H2 := Lib.hid e2
    clear e1 e2 e3 hab hge
    have hfd := fun w => field_M0 (meetA n (rofN n b a) b a) (meetB n (rofN n b a) b a) w
    go_enter Try.func18, Try.ntmps18
    go_wp2_with (first | (go_at_call 32; refine (isCount_any _ _).mono ?_; rintro e w_ ⟨rfl, rfl⟩) | (go_at_call 33; refine (between_any _ _ _ _).mono ?_; rintro e w_ ⟨rfl, rfl⟩) | (go_at_call 35; refine (roundOf_any n b a _ h h2 hgt ha).mono ?_; rintro e w_ ⟨rfl, rfl⟩) | (go_at_call 36; refine (meeting_any n _ b a _ h h2 (by omega) hgt ha).mono ?_; rintro e w1 ⟨rfl, hb1⟩; obtain ⟨hc1, hf1, hl1, hz1⟩ := bfacts hb1; (try simp only [World.size_alloc, World.size_setCell, World.size_drew] at hz1)))
    go_ret3
    exact ⟨by rw [H1.out, H2.out, H3.out]; rfl, by (repeat' (first | (with_reducible exact Below.refl _ _) | (with_reducible assumption) | (with_reducible refine Below.alloc ?_ ?_ _) | (with_reducible refine Below.drew ?_) | (with_reducible refine belowDrewN ?_ _) | (with_reducible refine Below.setCell ?_ ?_ _) | (with_reducible refine Below.via (by with_reducible assumption) ?_ ?_) | (with_reducible refine Below.viaD (by with_reducible assumption) ?_ ?_) | (with_reducible exact Below.size (by with_reducible assumption)) | go_size | (with_reducible refine Nat.le_trans ?_ (Below.size (by with_reducible assumption))) | (with_reducible refine Nat.le_trans ?_ (sizeAlloc _ _)) | (with_reducible refine Nat.le_trans ?_ (sizeSet _ _ _)) | (with_reducible refine Nat.le_trans ?_ (sizeDrew _))))⟩
theorem sRoundOf_any (n a b : Int) (w : World) : Calls Try.prog 19 #[.int .i64 n, .int .i64 a, .int .i64 b] w fun e w' => e = .returned (.tuple #[.int .i64 (roC n a b), .bool (roB n a b), .int .i64 (roE n a b)]) ∧ Below w.heap.size w w' := by
  cases hok : okP n a b
  · obtain ⟨e1, e2, e3⟩ := ro_no hok
    rw [e1, e2, e3]
    exact sRoundOf_no n a b w hok
  · obtain ⟨k, i, j, rfl, rfl, rfl, k1, k2, hi, hj, hij⟩ := okP_of hok
    exact sRoundOf_yes k i j w k1 k2 hi hj hij hok
theorem RoundOf_any (n a b : Int) (w : World) : Calls Try.prog 18 #[.int .i64 n, .int .i64 a, .int .i64 b] w fun e w' => e = .returned (.tuple #[.int .i64 (roC n a b), .bool (roB n a b), .int .i64 (roE n a b)]) ∧ Below w.heap.size w w' := by
  cases hok : okP n a b
  · obtain ⟨e1, e2, e3⟩ := ro_no hok
    rw [e1, e2, e3]
    exact RoundOf_no n a b w hok
  · obtain ⟨k, i, j, rfl, rfl, rfl, k1, k2, hi, hj, hij⟩ := okP_of hok
    exact RoundOf_yes k i j w k1 k2 hi hj hij hok
end Go.Proofs.Ytpdmacklipcmkaa
