/- A player after some games, by both functions. Conditions: sums of at most 198000. -/
import Derived.Test.YtaeeijjejkohjaaRate3
import Derived.Test.YtaeeijjejkohjaaFlat
namespace Go.Proofs.Ytaeeijjejkohjaa
set_option linter.unusedSimpArgs false
set_option linter.unusedVariables false
open Go.RowKit

def rnd (t : Int) : Int := if t < 0 then -((2 * -t + 1000) / 2000) else (2 * t + 1000) / 2000
def mvA (a b s : Int) : Int := max 0 (min 4000 (a + rnd (stepR a b * s)))
def mvB (b g : Int) : Int := min 1000000 (b + g)
theorem stepR_cases (a b : Int) : stepR a b = 40 ∨ stepR a b = 20 ∨ stepR a b = 10 := by
  unfold stepR
  split
  · exact .inl rfl
  · split
    · exact .inr (.inl rfl)
    · exact .inr (.inr rfl)
theorem total_bd {a b s : Int} (h1 : -198000 ≤ s) (h2 : s ≤ 198000) : -7920000 ≤ stepR a b * s ∧ stepR a b * s ≤ 7920000 := by
  rcases stepR_cases a b with h | h | h <;> rw [h] <;> omega
theorem ret_agg {x x' y y' : Int} (h : x = x') (h2 : y = y') : Ending.returned (.agg #[.int .i64 x, .int .i64 y]) = .returned (.agg #[.int .i64 x', .int .i64 y']) := by rw [h, h2]
theorem absolute_nat (n : Nat) (hn : n ≤ 9223372036854775807) (w : World) : Calls Try.prog 70 #[.int .i64 n] w fun e w' => e = .returned (.int .i64 n) ∧ w = w' := by
  go_enter Try.func70, Try.ntmps70
  go_wp2
  go_ret
  exact ⟨rfl, rfl⟩
theorem absolute_neg (n : Nat) (h0 : 0 < n) (hn : n ≤ 9223372036854775807) (w : World) : Calls Try.prog 70 #[.int .i64 (-(n : Int))] w fun e w' => e = .returned (.int .i64 n) ∧ w = w' := by
  go_enter Try.func70, Try.ntmps70
  go_wp2
  go_ret
  exact ⟨by first | rfl | simp, rfl⟩
theorem res_cells {w1 : World} {g : Nat} {t : TypeId} (K : Blk w1 g t #[.int .i64 0, .int .i64 0]) :
    (∀ v v', ((w1.setCell ⟨g, 0, none⟩ v).setCell ⟨g, 1, none⟩ v').cell? ⟨g, 0, none⟩ = some v) ∧ (∀ v v', ((w1.setCell ⟨g, 0, none⟩ v).setCell ⟨g, 1, none⟩ v').cell? ⟨g, 1, none⟩ = some v') :=
  ⟨fun v v' => ((K.set 0 v).set 1 v').cell 0, fun v v' => ((K.set 0 v).set 1 v').cell 1⟩
set_option maxHeartbeats 1000000 in
theorem changed_any (a b s g : Int) (ha : 0 ≤ a) (ha2 : a ≤ 4000) (hb : 0 ≤ b) (hb2 : b ≤ 1000000) (hs : -198000 ≤ s) (hs2 : s ≤ 198000) (hg : 0 ≤ g) (hg2 : g ≤ 200) (w : World) :
    Calls Try.prog 68 #[.agg #[.int .i64 a, .int .i64 b], .int .i64 s, .int .i64 g] w fun e w' => e = .returned (.agg #[.int .i64 (mvA a b s), .int .i64 (mvB b g)]) ∧ Below w.heap.size w w' := by
  have HS := Lib.hid (fun (w : World) => step_any a b w)
  obtain ⟨t1, t2⟩ := total_bd (a := a) (b := b) hs hs2
  have HA : Hid (mvA a b s = max 0 (min 4000 (a + rnd (stepR a b * s)))) := rfl
  revert HS t1 t2 HA
  generalize stepR a b = st
  intro HS t1 t2 HA
  obtain ⟨t, ht⟩ : ∃ t, st * s = t := ⟨_, rfl⟩
  rw [ht] at t1 t2 HA
  by_cases hneg : t < 0
  case pos =>
    obtain ⟨n, hn⟩ := Int.eq_ofNat_of_zero_le (show 0 ≤ -t by omega)
    obtain rfl : t = -(n : Int) := by omega
    obtain ⟨q, hq⟩ : ∃ q : Nat, (2 * n + 1000) / 2000 = q := ⟨_, rfl⟩
    have hq2 : (2 * (n : Int) + 1000) / 2000 = (q : Int) := by omega
    have hqb : q ≤ 7921 := by omega
    have HR : Hid (rnd (-(n : Int)) = -(q : Int)) := by
      unfold Hid
      rw [rnd, if_pos hneg, Int.neg_neg, hq2]
    clear hq hn
    go_enter Try.func68, Try.ntmps68
    go_wp2_with fail
    refine (HS.out _).mono ?_
    rintro e w1 ⟨rfl, hb1⟩
    obtain ⟨hc1, hf1, hl1, hz1⟩ := bfacts hb1
    obtain ⟨hq0, hq1⟩ := res_cells (g := w.heap.size + 1) (t := 24) ((Blk.new' (w := w.alloc (.cells #[.int .i64 a, .int .i64 b] 24)) (by simp)).later hb1)
    go_wp2_with (go_at_call 70; refine (absolute_neg n (by omega) (by omega) _).mono ?_; rintro e w_ ⟨rfl, rfl⟩)
    all_goals
      (try simp only [Exit.inBlock, Exit.then])
      refine bodyPost_ret (by simp [results, Try.results68, go_sem, hq0, hq1]; try rfl) rfl ?_
      exact ⟨ret_agg (by rw [HA.out, HR.out]; omega) (by unfold mvB; omega), by (repeat' (first | (with_reducible exact Below.refl _ _) | (with_reducible assumption) | (with_reducible refine Below.alloc ?_ ?_ _) | (with_reducible refine Below.drew ?_) | (with_reducible refine belowDrewN ?_ _) | (with_reducible refine Below.setCell ?_ ?_ _) | (with_reducible refine Below.via (by with_reducible assumption) ?_ ?_) | (with_reducible refine Below.viaD (by with_reducible assumption) ?_ ?_) | (with_reducible exact Below.size (by with_reducible assumption)) | go_size | (with_reducible refine Nat.le_trans ?_ (Below.size (by with_reducible assumption))) | (with_reducible refine Nat.le_trans ?_ (sizeAlloc _ _)) | (with_reducible refine Nat.le_trans ?_ (sizeSet _ _ _)) | (with_reducible refine Nat.le_trans ?_ (sizeDrew _))))⟩
  case neg =>
    obtain ⟨n, hn⟩ := Int.eq_ofNat_of_zero_le (show 0 ≤ t by omega)
    obtain rfl : t = (n : Int) := by omega
    obtain ⟨q, hq⟩ : ∃ q : Nat, (2 * n + 1000) / 2000 = q := ⟨_, rfl⟩
    have hq2 : (2 * (n : Int) + 1000) / 2000 = (q : Int) := by omega
    have hqb : q ≤ 7921 := by omega
    have HR : Hid (rnd (n : Int) = (q : Int)) := by
      unfold Hid
      rw [rnd, if_neg hneg, hq2]
    clear hq hn
    go_enter Try.func68, Try.ntmps68
    go_wp2_with fail
    refine (HS.out _).mono ?_
    rintro e w1 ⟨rfl, hb1⟩
    obtain ⟨hc1, hf1, hl1, hz1⟩ := bfacts hb1
    obtain ⟨hq0, hq1⟩ := res_cells (g := w.heap.size + 1) (t := 24) ((Blk.new' (w := w.alloc (.cells #[.int .i64 a, .int .i64 b] 24)) (by simp)).later hb1)
    go_wp2_with (go_at_call 70; refine (absolute_nat n (by omega) _).mono ?_; rintro e w_ ⟨rfl, rfl⟩)
    all_goals
      (try simp only [Exit.inBlock, Exit.then])
      refine bodyPost_ret (by simp [results, Try.results68, go_sem, hq0, hq1]; try rfl) rfl ?_
      exact ⟨ret_agg (by rw [HA.out, HR.out]; omega) (by unfold mvB; omega), by (repeat' (first | (with_reducible exact Below.refl _ _) | (with_reducible assumption) | (with_reducible refine Below.alloc ?_ ?_ _) | (with_reducible refine Below.drew ?_) | (with_reducible refine belowDrewN ?_ _) | (with_reducible refine Below.setCell ?_ ?_ _) | (with_reducible refine Below.via (by with_reducible assumption) ?_ ?_) | (with_reducible refine Below.viaD (by with_reducible assumption) ?_ ?_) | (with_reducible exact Below.size (by with_reducible assumption)) | go_size | (with_reducible refine Nat.le_trans ?_ (Below.size (by with_reducible assumption))) | (with_reducible refine Nat.le_trans ?_ (sizeAlloc _ _)) | (with_reducible refine Nat.le_trans ?_ (sizeSet _ _ _)) | (with_reducible refine Nat.le_trans ?_ (sizeDrew _))))⟩
theorem l25Round_nat (n : Nat) (hn : n ≤ 9000000) (w : World) : Calls Try.prog 67 #[.int .i64 n] w fun e w' => e = .returned (.int .i64 (rnd n)) ∧ w = w' := by
  have HR : Hid (rnd (n : Int) = (2 * (n : Int) + 1000) / 2000) := by unfold Hid; rw [rnd, if_neg (by omega)]
  go_enter Try.func67, Try.ntmps67
  go_wp2
  go_ret
  exact ⟨by rw [HR.out]; rfl, rfl⟩
theorem rnd_nat_bd (n : Nat) (hn : n ≤ 9000000) : 0 ≤ rnd (n : Int) ∧ rnd (n : Int) ≤ 9001 := by
  rw [rnd, if_neg (by omega)]
  omega
theorem rnd_neg (n : Nat) (h : 0 < n) : rnd (-(n : Int)) = -rnd (n : Int) := by
  rw [rnd, if_pos (by omega), rnd, if_neg (by omega), Int.neg_neg]
theorem l25Round_any (t : Int) (h1 : -9000000 ≤ t) (h2 : t ≤ 9000000) (w : World) : Calls Try.prog 67 #[.int .i64 t] w fun e w' => e = .returned (.int .i64 (rnd t)) ∧ w = w' := by
  by_cases hneg : t < 0
  · obtain ⟨n, hn⟩ := Int.eq_ofNat_of_zero_le (show 0 ≤ -t by omega)
    obtain rfl : t = -(n : Int) := by omega
    have HR : Hid (rnd (-(n : Int)) = -rnd (n : Int)) := rnd_neg n (by omega)
    have HC := Lib.hid (fun w => l25Round_nat n (by omega) w)
    obtain ⟨b1, b2⟩ := rnd_nat_bd n (by omega)
    revert HR HC b1 b2
    generalize rnd (n : Int) = x
    intro HR HC b1 b2
    go_enter Try.func67, Try.ntmps67
    go_wp2_with (go_at_call 67; refine (HC.out _).mono ?_; rintro e w_ ⟨rfl, rfl⟩)
    go_ret
    exact ⟨by rw [HR.out]; rfl, rfl⟩
  · obtain ⟨n, hn⟩ := Int.eq_ofNat_of_zero_le (show 0 ≤ t by omega)
    obtain rfl : t = (n : Int) := by omega
    exact l25Round_nat n (by omega) w
theorem rnd_bd {t : Int} (h1 : -9000000 ≤ t) (h2 : t ≤ 9000000) : -9001 ≤ rnd t ∧ rnd t ≤ 9001 := by
  rw [rnd]
  split <;> omega
end Go.Proofs.Ytaeeijjejkohjaa
