/- The expected score: what both functions compute. Condition: the difference of two ratings. -/
import Derived.Test.YtaeeijjejkohjaaSl
import Derived.Test.YtaeeijjejkohjaaRate1
import Derived.BigQuiet
import Derived.Deep.QuietTactic
namespace Go.Proofs.Ytaeeijjejkohjaa
set_option linter.unusedSimpArgs false
set_option linter.unusedVariables false
open Go.RowKit

def tabE : List Int := [500, 571, 640, 703, 760, 808, 849, 882, 909, 930, 947, 960, 969, 977, 983, 987, 990]
def expP (n : Nat) : Int := if 800 ≤ n then 990 else tabE.getD (n / 50) 0 + (tabE.getD (n / 50 + 1) 0 - tabE.getD (n / 50) 0) * ((n % 50 : Nat) : Int) / 50
def expE (d : Int) : Int := if d < 0 then 1000 - expP (-d).toNat else expP d.toNat
theorem tab_bd : ∀ k, k < 16 → 500 ≤ tabE.getD k 0 ∧ tabE.getD k 0 ≤ tabE.getD (k + 1) 0 ∧ tabE.getD (k + 1) 0 ≤ 990 ∧ tabE.getD (k + 1) 0 - tabE.getD k 0 ≤ 100 := by decide
theorem tab_cell (w : World) (t : TypeId) (k : Nat) (hk : k < 17) :
    (w.alloc (Obj.cells #[.int .i64 500, .int .i64 571, .int .i64 640, .int .i64 703, .int .i64 760, .int .i64 808, .int .i64 849, .int .i64 882, .int .i64 909, .int .i64 930, .int .i64 947, .int .i64 960, .int .i64 969, .int .i64 977, .int .i64 983, .int .i64 987, .int .i64 990] t)).cell? ⟨w.heap.size, k, none⟩ = some (.int .i64 (tabE.getD k 0)) := by
  rw [World.cell?_alloc_at (hn := rfl)]
  have h : k = 0 ∨ k = 1 ∨ k = 2 ∨ k = 3 ∨ k = 4 ∨ k = 5 ∨ k = 6 ∨ k = 7 ∨ k = 8 ∨ k = 9 ∨ k = 10 ∨ k = 11 ∨ k = 12 ∨ k = 13 ∨ k = 14 ∨ k = 15 ∨ k = 16 := by omega
  rcases h with rfl | rfl | rfl | rfl | rfl | rfl | rfl | rfl | rfl | rfl | rfl | rfl | rfl | rfl | rfl | rfl | rfl <;> rfl
set_option maxRecDepth 100000 in
set_option maxHeartbeats 400000 in
theorem expected_pos (n : Nat) (hn : n ≤ 4000) (w : World) : Calls Try.prog 49 #[.int .i64 n] w fun e w' => e = .returned (.int .i64 (expP n)) ∧ Below w.heap.size w w' := by
  by_cases h8 : 800 ≤ n
  case pos =>
    go_enter Try.func49, Try.ntmps49
    go_wp2_with fail
    go_ret
    exact ⟨by rw [expP, if_pos h8]; rfl, by (repeat' (first | (with_reducible exact Below.refl _ _) | (with_reducible assumption) | (with_reducible refine Below.alloc ?_ ?_ _) | (with_reducible refine Below.drew ?_) | (with_reducible refine belowDrewN ?_ _) | (with_reducible refine Below.setCell ?_ ?_ _) | (with_reducible refine Below.via (by with_reducible assumption) ?_ ?_) | (with_reducible refine Below.viaD (by with_reducible assumption) ?_ ?_) | (with_reducible exact Below.size (by with_reducible assumption)) | go_size | (with_reducible refine Nat.le_trans ?_ (Below.size (by with_reducible assumption))) | (with_reducible refine Nat.le_trans ?_ (sizeAlloc _ _)) | (with_reducible refine Nat.le_trans ?_ (sizeSet _ _ _)) | (with_reducible refine Nat.le_trans ?_ (sizeDrew _))))⟩
  case neg =>
    have hk : n / 50 < 16 := by omega
    have hb := tab_bd (n / 50) hk
    have c1 := tab_cell w 91 (n / 50) (by omega)
    have c2 := tab_cell w 91 (n / 50 + 1) (by omega)
    have hE : Hid (expP n = tabE.getD (n / 50) 0 + (tabE.getD (n / 50 + 1) 0 - tabE.getD (n / 50) 0) * ((n : Int) % 50) / 50) := by
      unfold Hid
      rw [expP, if_neg h8]
      rfl
    revert hE c1 c2 hb
    generalize tabE.getD (n / 50) 0 = lo
    generalize tabE.getD (n / 50 + 1) 0 = hi
    intro hb c1 c2 hE
    obtain ⟨b1, b2, b3, b4⟩ := hb
    have m1 : 0 ≤ (hi - lo) * ((n : Int) % 50) := Int.mul_nonneg (by omega) (by omega)
    have m2 : (hi - lo) * ((n : Int) % 50) ≤ 100 * 50 := Int.mul_le_mul (by omega) (by omega) (by omega) (by omega)
    go_enter Try.func49, Try.ntmps49
    go_wp2_with fail
    go_quiet  (fail)
    go_wp2_with fail
    go_ret
    exact ⟨by rw [hE.out]; rfl, by (repeat' (first | (with_reducible exact Below.refl _ _) | (with_reducible assumption) | (with_reducible refine Below.alloc ?_ ?_ _) | (with_reducible refine Below.drew ?_) | (with_reducible refine belowDrewN ?_ _) | (with_reducible refine Below.setCell ?_ ?_ _) | (with_reducible refine Below.via (by with_reducible assumption) ?_ ?_) | (with_reducible refine Below.viaD (by with_reducible assumption) ?_ ?_) | (with_reducible exact Below.size (by with_reducible assumption)) | go_size | (with_reducible refine Nat.le_trans ?_ (Below.size (by with_reducible assumption))) | (with_reducible refine Nat.le_trans ?_ (sizeAlloc _ _)) | (with_reducible refine Nat.le_trans ?_ (sizeSet _ _ _)) | (with_reducible refine Nat.le_trans ?_ (sizeDrew _))))⟩
theorem expP_bd (n : Nat) : 500 ≤ expP n ∧ expP n ≤ 990 := by
  by_cases h8 : 800 ≤ n
  · rw [expP, if_pos h8]; omega
  · have hb := tab_bd (n / 50) (by omega)
    rw [expP, if_neg h8]
    generalize tabE.getD (n / 50) 0 = lo at *
    generalize tabE.getD (n / 50 + 1) 0 = hi at *
    obtain ⟨b1, b2, b3, b4⟩ := hb
    have m1 : 0 ≤ (hi - lo) * ((n % 50 : Nat) : Int) := Int.mul_nonneg (by omega) (by omega)
    have m2 : (hi - lo) * ((n % 50 : Nat) : Int) ≤ (hi - lo) * 50 := Int.mul_le_mul (by omega) (by omega) (by omega) (by omega)
    omega
theorem expE_bd (d : Int) : 10 ≤ expE d ∧ expE d ≤ 990 := by
  unfold expE
  split
  · have := expP_bd (-d).toNat; omega
  · have := expP_bd d.toNat; omega
theorem expE_nat (n : Nat) : expE n = expP n := by
  rw [expE, if_neg (by omega)]; rfl
theorem expE_neg (n : Nat) (h : 0 < n) : expE (-(n : Int)) = 1000 - expP n := by
  rw [expE, if_pos (by omega)]; simp
set_option maxRecDepth 100000 in
set_option maxHeartbeats 400000 in
theorem expected_any (d : Int) (h1 : -4000 ≤ d) (h2 : d ≤ 4000) (w : World) : Calls Try.prog 49 #[.int .i64 d] w fun e w' => e = .returned (.int .i64 (expE d)) ∧ Below w.heap.size w w' := by
  by_cases h : 0 ≤ d
  case pos =>
    obtain ⟨n, rfl⟩ := Int.eq_ofNat_of_zero_le h
    rw [expE_nat]
    exact expected_pos n (by omega) w
  case neg =>
    obtain ⟨n, hn⟩ : ∃ n : Nat, d = -(n : Int) := ⟨(-d).toNat, by omega⟩
    subst hn
    have hp := expP_bd n
    have hE := Lib.hid (expE_neg n (by omega))
    go_enter Try.func49, Try.ntmps49
    go_wp2_with (go_at_call 49; refine (expected_pos n (by omega) _).mono ?_; rintro e w1 ⟨rfl, hb1⟩; obtain ⟨hc1, hf1, hl1, hz1⟩ := bfacts hb1; (try simp only [World.size_alloc, World.size_setCell, World.size_drew] at hz1))
    go_ret
    exact ⟨by rw [hE.out]; rfl, by (repeat' (first | (with_reducible exact Below.refl _ _) | (with_reducible assumption) | (with_reducible refine Below.alloc ?_ ?_ _) | (with_reducible refine Below.drew ?_) | (with_reducible refine belowDrewN ?_ _) | (with_reducible refine Below.setCell ?_ ?_ _) | (with_reducible refine Below.via (by with_reducible assumption) ?_ ?_) | (with_reducible refine Below.viaD (by with_reducible assumption) ?_ ?_) | (with_reducible exact Below.size (by with_reducible assumption)) | go_size | (with_reducible refine Nat.le_trans ?_ (Below.size (by with_reducible assumption))) | (with_reducible refine Nat.le_trans ?_ (sizeAlloc _ _)) | (with_reducible refine Nat.le_trans ?_ (sizeSet _ _ _)) | (with_reducible refine Nat.le_trans ?_ (sizeDrew _))))⟩
set_option maxRecDepth 100000 in
theorem l25Steps_any (w : World) : Calls Try.prog 64 #[] w fun e w' => e = .returned (.slice (some ⟨w.heap.size, 0, none⟩) 17 17) ∧ w' = w.alloc (Obj.cells #[.int .i64 500, .int .i64 571, .int .i64 640, .int .i64 703, .int .i64 760, .int .i64 808, .int .i64 849, .int .i64 882, .int .i64 909, .int .i64 930, .int .i64 947, .int .i64 960, .int .i64 969, .int .i64 977, .int .i64 983, .int .i64 987, .int .i64 990] 2) := by
  go_enter Try.func64, Try.ntmps64
  go_wp2
  go_ret
  exact ⟨rfl, rfl⟩
set_option maxRecDepth 100000 in
set_option maxHeartbeats 400000 in
theorem l25Expected_pos (n : Nat) (hn : n ≤ 4000) (w : World) : Calls Try.prog 40 #[.int .i64 n] w fun e w' => e = .returned (.int .i64 (expP n)) ∧ Below w.heap.size w w' := by
  by_cases h8 : 800 ≤ n
  case pos =>
    go_enter Try.func40, Try.ntmps40
    go_wp2_with (go_at_call 64; refine (l25Steps_any _).mono ?_; rintro e w1 ⟨rfl, rfl⟩)
    go_ret
    exact ⟨by rw [expP, if_pos h8]; rfl, by (repeat' (first | (with_reducible exact Below.refl _ _) | (with_reducible assumption) | (with_reducible refine Below.alloc ?_ ?_ _) | (with_reducible refine Below.drew ?_) | (with_reducible refine belowDrewN ?_ _) | (with_reducible refine Below.setCell ?_ ?_ _) | (with_reducible refine Below.via (by with_reducible assumption) ?_ ?_) | (with_reducible refine Below.viaD (by with_reducible assumption) ?_ ?_) | (with_reducible exact Below.size (by with_reducible assumption)) | go_size | (with_reducible refine Nat.le_trans ?_ (Below.size (by with_reducible assumption))) | (with_reducible refine Nat.le_trans ?_ (sizeAlloc _ _)) | (with_reducible refine Nat.le_trans ?_ (sizeSet _ _ _)) | (with_reducible refine Nat.le_trans ?_ (sizeDrew _))))⟩
  case neg =>
    have hk : n / 50 < 16 := by omega
    have hb := tab_bd (n / 50) hk
    have c1 := tab_cell w 2 (n / 50) (by omega)
    have c2 := tab_cell w 2 (n / 50 + 1) (by omega)
    have hE : Hid (expP n = tabE.getD (n / 50) 0 + (tabE.getD (n / 50 + 1) 0 - tabE.getD (n / 50) 0) * ((n : Int) % 50) / 50) := by
      unfold Hid
      rw [expP, if_neg h8]
      rfl
    revert hE c1 c2 hb
    generalize tabE.getD (n / 50) 0 = lo
    generalize tabE.getD (n / 50 + 1) 0 = hi
    intro hb c1 c2 hE
    obtain ⟨b1, b2, b3, b4⟩ := hb
    have m1 : 0 ≤ (hi - lo) * ((n : Int) % 50) := Int.mul_nonneg (by omega) (by omega)
    have m2 : (hi - lo) * ((n : Int) % 50) ≤ 100 * 50 := Int.mul_le_mul (by omega) (by omega) (by omega) (by omega)
    go_enter Try.func40, Try.ntmps40
    go_wp2_with (go_at_call 64; refine (l25Steps_any _).mono ?_; rintro e w1 ⟨rfl, rfl⟩)
    go_quiet  (fail)
    go_wp2_with fail
    go_ret
    exact ⟨by rw [hE.out]; rfl, by (repeat' (first | (with_reducible exact Below.refl _ _) | (with_reducible assumption) | (with_reducible refine Below.alloc ?_ ?_ _) | (with_reducible refine Below.drew ?_) | (with_reducible refine belowDrewN ?_ _) | (with_reducible refine Below.setCell ?_ ?_ _) | (with_reducible refine Below.via (by with_reducible assumption) ?_ ?_) | (with_reducible refine Below.viaD (by with_reducible assumption) ?_ ?_) | (with_reducible exact Below.size (by with_reducible assumption)) | go_size | (with_reducible refine Nat.le_trans ?_ (Below.size (by with_reducible assumption))) | (with_reducible refine Nat.le_trans ?_ (sizeAlloc _ _)) | (with_reducible refine Nat.le_trans ?_ (sizeSet _ _ _)) | (with_reducible refine Nat.le_trans ?_ (sizeDrew _))))⟩
set_option maxRecDepth 100000 in
set_option maxHeartbeats 400000 in
theorem l25Expected_any (d : Int) (h1 : -4000 ≤ d) (h2 : d ≤ 4000) (w : World) : Calls Try.prog 40 #[.int .i64 d] w fun e w' => e = .returned (.int .i64 (expE d)) ∧ Below w.heap.size w w' := by
  by_cases h : 0 ≤ d
  case pos =>
    obtain ⟨n, rfl⟩ := Int.eq_ofNat_of_zero_le h
    rw [expE_nat]
    exact l25Expected_pos n (by omega) w
  case neg =>
    obtain ⟨n, hn⟩ : ∃ n : Nat, d = -(n : Int) := ⟨(-d).toNat, by omega⟩
    subst hn
    have hp := expP_bd n
    have hE := Lib.hid (expE_neg n (by omega))
    go_enter Try.func40, Try.ntmps40
    go_wp2_with (go_at_call 40; refine (l25Expected_pos n (by omega) _).mono ?_; rintro e w1 ⟨rfl, hb1⟩; obtain ⟨hc1, hf1, hl1, hz1⟩ := bfacts hb1; (try simp only [World.size_alloc, World.size_setCell, World.size_drew] at hz1))
    go_ret
    exact ⟨by rw [hE.out]; rfl, by (repeat' (first | (with_reducible exact Below.refl _ _) | (with_reducible assumption) | (with_reducible refine Below.alloc ?_ ?_ _) | (with_reducible refine Below.drew ?_) | (with_reducible refine belowDrewN ?_ _) | (with_reducible refine Below.setCell ?_ ?_ _) | (with_reducible refine Below.via (by with_reducible assumption) ?_ ?_) | (with_reducible refine Below.viaD (by with_reducible assumption) ?_ ?_) | (with_reducible exact Below.size (by with_reducible assumption)) | go_size | (with_reducible refine Nat.le_trans ?_ (Below.size (by with_reducible assumption))) | (with_reducible refine Nat.le_trans ?_ (sizeAlloc _ _)) | (with_reducible refine Nat.le_trans ?_ (sizeSet _ _ _)) | (with_reducible refine Nat.le_trans ?_ (sizeDrew _))))⟩
end Go.Proofs.Ytaeeijjejkohjaa
