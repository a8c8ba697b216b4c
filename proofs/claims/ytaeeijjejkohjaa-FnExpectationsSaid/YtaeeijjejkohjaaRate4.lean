/- Sums of expected scores and the performance: what both functions compute. Conditions: valid ratings, at most 100. -/
import Derived.Test.YtaeeijjejkohjaaRate3
import Derived.Test.YtaeeijjejkohjaaSl
namespace Go.Proofs.Ytaeeijjejkohjaa
set_option linter.unusedSimpArgs false
set_option linter.unusedVariables false
open Go.RowKit

def othersB (zs : List Int) : Bool := zs.all (fun z => inB z 0 4000) && decide (zs.length ≤ 100)
theorem areOthers_any (A : Option Addr) (n c : Nat) (zs : List Int) (w : World) (hs : Sl w w.heap.size 1 A n (zs.map (Value.int .i64))) (hn : n ≤ 9223372036854775807) :
    Calls Try.prog 52 #[.slice A n c] w fun e w' => e = .returned (.bool (othersB zs)) ∧ w = w' := by
  have HL := Lib.hid hs.ints
  go_enter Try.func52, Try.ntmps52
  go_wp2
  go_loop [7] (fun i => ∃ k : Nat, k ≤ n ∧ i = .int .i64 k ∧ Hid (∀ j, j < k → inB (zs.getD j 0) 0 4000 = true)) (fun i => n - (intOf i).toNat)
  case atStart => exact ⟨0, Nat.zero_le _, rfl, fun j hj => absurd hj (by omega)⟩
  case round =>
    obtain ⟨k, hk, rfl, hpre⟩ := hrel
    by_cases hlt : k < n
    · obtain ⟨b, off, z, rfl, hb, HZ, hc⟩ := hs.int hlt
      cases hq : inB z 0 4000
      · have hE : othersB zs = false := by
          rw [othersB, all_false (k := k) (d := 0) (by rw [HL.out]; exact hlt) (by rw [HZ.out]; exact hq)]; rfl
        have HE := Lib.hid hE
        clear hE
        go_wp2_with (go_at_call 48; refine (isRating_any _ _).mono ?_; rintro e w_ ⟨rfl, rfl⟩)
        go_ret
        exact ⟨by rw [HE.out]; rfl, rfl⟩
      · go_wp2_with (go_at_call 48; refine (isRating_any _ _).mono ?_; rintro e w_ ⟨rfl, rfl⟩)
        go_round
        case rel =>
          refine ⟨k + 1, by omega, by go_num, fun j hj => ?_⟩
          rcases Nat.lt_or_ge j k with h | h
          · exact hpre.out j h
          · obtain rfl : j = k := by omega
            rw [HZ.out]; exact hq
        case measure => simp [intOf]; omega
    · obtain rfl : k = n := by omega
      have hE : othersB zs = decide ((k : Int) ≤ 100) := by
        rw [othersB, all_true (d := 0) (fun j hj => hpre.out j (by rw [← HL.out]; exact hj)), HL.out, Bool.true_and]
        simp
        omega
      have HE := Lib.hid hE
      clear hE
      go_wp2
      go_ret
      exact ⟨by rw [HE.out]; rfl, rfl⟩
theorem l25Others_any (A : Option Addr) (n c : Nat) (zs : List Int) (w : World) (hs : Sl w w.heap.size 1 A n (zs.map (Value.int .i64))) (hn : n ≤ 9223372036854775807) :
    Calls Try.prog 54 #[.slice A n c] w fun e w' => e = .returned (.bool (othersB zs)) ∧ w = w' := by
  have HL := Lib.hid hs.ints
  go_enter Try.func54, Try.ntmps54
  go_wp2
  go_loop [3] (fun i => ∃ k : Nat, k ≤ n ∧ i = .int .i64 k ∧ Hid (∀ j, j < k → inB (zs.getD j 0) 0 4000 = true)) (fun i => n - (intOf i).toNat)
  case atStart => exact ⟨0, Nat.zero_le _, rfl, fun j hj => absurd hj (by omega)⟩
  case round =>
    obtain ⟨k, hk, rfl, hpre⟩ := hrel
    by_cases hlt : k < n
    · obtain ⟨b, off, z, rfl, hb, HZ, hc⟩ := hs.int hlt
      cases hq : inB z 0 4000
      · have hE : othersB zs = false := by
          rw [othersB, all_false (k := k) (d := 0) (by rw [HL.out]; exact hlt) (by rw [HZ.out]; exact hq)]; rfl
        have HE := Lib.hid hE
        clear hE
        go_wp2_with (go_at_call 50; refine (l25Rating_any _ _).mono ?_; rintro e w_ ⟨rfl, rfl⟩)
        go_ret
        exact ⟨by rw [HE.out]; rfl, rfl⟩
      · go_wp2_with (go_at_call 50; refine (l25Rating_any _ _).mono ?_; rintro e w_ ⟨rfl, rfl⟩)
        go_round
        case rel =>
          refine ⟨k + 1, by omega, by go_num, fun j hj => ?_⟩
          rcases Nat.lt_or_ge j k with h | h
          · exact hpre.out j h
          · obtain rfl : j = k := by omega
            rw [HZ.out]; exact hq
        case measure => simp [intOf]; omega
    · obtain rfl : k = n := by omega
      have hE : othersB zs = decide ((k : Int) ≤ 100) := by
        rw [othersB, all_true (d := 0) (fun j hj => hpre.out j (by rw [← HL.out]; exact hj)), HL.out, Bool.true_and]
        simp
        omega
      have HE := Lib.hid hE
      clear hE
      go_wp2
      go_ret
      exact ⟨by rw [HE.out]; rfl, rfl⟩
theorem othersB_of {zs : List Int} (h : othersB zs = true) : zs.length ≤ 100 ∧ ∀ z ∈ zs, 0 ≤ z ∧ z ≤ 4000 := by
  rw [othersB, Bool.and_eq_true, List.all_eq_true] at h
  exact ⟨by simpa using h.2, fun z hz => inB_of (h.1 z hz)⟩
def sumE (r : Int) (zs : List Int) : Int := (zs.map (fun z => expE (r - z))).sum
theorem sumE_snoc (r : Int) (zs : List Int) (z : Int) : sumE r (zs ++ [z]) = sumE r zs + expE (r - z) := by
  simp [sumE]
theorem sumE_bd (r : Int) (zs : List Int) : 0 ≤ sumE r zs ∧ sumE r zs ≤ 990 * zs.length := by
  induction zs with
  | nil => simp [sumE]
  | cons z zs ih =>
    have h := expE_bd (r - z)
    have e : sumE r (z :: zs) = expE (r - z) + sumE r zs := by simp [sumE]
    rw [e, List.length_cons]
    omega
theorem sumExpected_any (r : Int) (A : Option Addr) (n c : Nat) (zs : List Int) (w : World) (hs : Sl w w.heap.size 1 A n (zs.map (Value.int .i64))) (hn : n ≤ 100) (hz : ∀ z ∈ zs, 0 ≤ z ∧ z ≤ 4000) (hr1 : 0 ≤ r) (hr2 : r ≤ 4000) :
    Calls Try.prog 53 #[.int .i64 r, .slice A n c] w fun e w' => e = .returned (.int .i64 (sumE r zs)) ∧ Below w.heap.size w w' := by
  have HL := Lib.hid hs.ints
  have HZ0 := Lib.hid hz
  clear hz
  go_enter Try.func53, Try.ntmps53
  go_wp2
  go_loopw [5, 10] (fun s i wr => ∃ k : Nat, k ≤ n ∧ i = .int .i64 k ∧ s = .int .i64 (sumE r (zs.take k)) ∧ Below w.heap.size w wr) (fun _ i _ => n - (intOf i).toNat)
  case atStart => exact ⟨0, Nat.zero_le _, rfl, by simp [sumE], Below.refl _ _⟩
  case round =>
    obtain ⟨k, hk, rfl, rfl, hbl⟩ := hrel
    by_cases hlt : k < n
    · obtain ⟨b, off, z, rfl, hb, HZ, hc⟩ := (hs.below hbl).int hlt
      have hlz : k < zs.length := by rw [HL.out]; exact hlt
      obtain ⟨z1, z2⟩ := HZ0.out (zs.getD k 0) (getD_mem 0 hlz)
      rw [HZ.out] at z1 z2
      have hE := sumE_snoc r (zs.take k) z
      rw [← HZ.out, ← take_succ_getD 0 hlz, HZ.out] at hE
      have HE := Lib.hid hE
      obtain ⟨s1, s2⟩ := sumE_bd r (zs.take k)
      have hlk : (zs.take k).length ≤ k := List.length_take_le _ _
      obtain ⟨x1, x2⟩ := expE_bd (r - z)
      have d1 : -4000 ≤ r - z := by omega
      have d2 : r - z ≤ 4000 := by omega
      clear hE hlz
      go_wp2_with (go_at_call 49; refine (expected_any _ d1 d2 _).mono ?_; rintro e w1 ⟨rfl, hb1⟩; obtain ⟨hc1, hf1, hl1, hz1⟩ := bfacts hb1; (try simp only [World.size_alloc, World.size_setCell, World.size_drew] at hz1))
      go_roundw
      case rel => exact ⟨k + 1, by omega, by go_num, by rw [HE.out], by (repeat' (first | (with_reducible exact Below.refl _ _) | (with_reducible assumption) | (with_reducible refine Below.alloc ?_ ?_ _) | (with_reducible refine Below.drew ?_) | (with_reducible refine belowDrewN ?_ _) | (with_reducible refine Below.setCell ?_ ?_ _) | (with_reducible refine Below.via (by with_reducible assumption) ?_ ?_) | (with_reducible refine Below.viaD (by with_reducible assumption) ?_ ?_) | (with_reducible exact Below.size (by with_reducible assumption)) | go_size | (with_reducible refine Nat.le_trans ?_ (Below.size (by with_reducible assumption))) | (with_reducible refine Nat.le_trans ?_ (sizeAlloc _ _)) | (with_reducible refine Nat.le_trans ?_ (sizeSet _ _ _)) | (with_reducible refine Nat.le_trans ?_ (sizeDrew _))))⟩
      case measure => simp [intOf]; omega
    · obtain rfl : k = n := by omega
      go_wp2
      go_ret
      exact ⟨by rw [List.take_of_length_le (by rw [HL.out]; omega)]; rfl, by (repeat' (first | (with_reducible exact Below.refl _ _) | (with_reducible assumption) | (with_reducible refine Below.alloc ?_ ?_ _) | (with_reducible refine Below.drew ?_) | (with_reducible refine belowDrewN ?_ _) | (with_reducible refine Below.setCell ?_ ?_ _) | (with_reducible refine Below.via (by with_reducible assumption) ?_ ?_) | (with_reducible refine Below.viaD (by with_reducible assumption) ?_ ?_) | (with_reducible exact Below.size (by with_reducible assumption)) | go_size | (with_reducible refine Nat.le_trans ?_ (Below.size (by with_reducible assumption))) | (with_reducible refine Nat.le_trans ?_ (sizeAlloc _ _)) | (with_reducible refine Nat.le_trans ?_ (sizeSet _ _ _)) | (with_reducible refine Nat.le_trans ?_ (sizeDrew _))))⟩
theorem l25Sum_any (r : Int) (A : Option Addr) (n c : Nat) (zs : List Int) (w : World) (hs : Sl w w.heap.size 1 A n (zs.map (Value.int .i64))) (hn : n ≤ 100) (hz : ∀ z ∈ zs, 0 ≤ z ∧ z ≤ 4000) (hr1 : 0 ≤ r) (hr2 : r ≤ 4000) :
    Calls Try.prog 55 #[.int .i64 r, .slice A n c] w fun e w' => e = .returned (.int .i64 (sumE r zs)) ∧ Below w.heap.size w w' := by
  have HL := Lib.hid hs.ints
  have HZ0 := Lib.hid hz
  clear hz
  go_enter Try.func55, Try.ntmps55
  go_wp2
  go_loopw [5, 6] (fun s i wr => ∃ k : Nat, k ≤ n ∧ i = .int .i64 k ∧ s = .int .i64 (sumE r (zs.take k)) ∧ Below w.heap.size w wr) (fun _ i _ => n - (intOf i).toNat)
  case atStart => exact ⟨0, Nat.zero_le _, rfl, by simp [sumE], Below.refl _ _⟩
  case round =>
    obtain ⟨k, hk, rfl, rfl, hbl⟩ := hrel
    by_cases hlt : k < n
    · obtain ⟨b, off, z, rfl, hb, HZ, hc⟩ := (hs.below hbl).int hlt
      have hlz : k < zs.length := by rw [HL.out]; exact hlt
      obtain ⟨z1, z2⟩ := HZ0.out (zs.getD k 0) (getD_mem 0 hlz)
      rw [HZ.out] at z1 z2
      have hE := sumE_snoc r (zs.take k) z
      rw [← HZ.out, ← take_succ_getD 0 hlz, HZ.out] at hE
      have HE := Lib.hid hE
      obtain ⟨s1, s2⟩ := sumE_bd r (zs.take k)
      have hlk : (zs.take k).length ≤ k := List.length_take_le _ _
      obtain ⟨x1, x2⟩ := expE_bd (r - z)
      have d1 : -4000 ≤ r - z := by omega
      have d2 : r - z ≤ 4000 := by omega
      clear hE hlz
      go_wp2_with (go_at_call 40; refine (l25Expected_any _ d1 d2 _).mono ?_; rintro e w1 ⟨rfl, hb1⟩; obtain ⟨hc1, hf1, hl1, hz1⟩ := bfacts hb1; (try simp only [World.size_alloc, World.size_setCell, World.size_drew] at hz1))
      go_roundw
      case rel => exact ⟨k + 1, by omega, by go_num, by rw [HE.out], by (repeat' (first | (with_reducible exact Below.refl _ _) | (with_reducible assumption) | (with_reducible refine Below.alloc ?_ ?_ _) | (with_reducible refine Below.drew ?_) | (with_reducible refine belowDrewN ?_ _) | (with_reducible refine Below.setCell ?_ ?_ _) | (with_reducible refine Below.via (by with_reducible assumption) ?_ ?_) | (with_reducible refine Below.viaD (by with_reducible assumption) ?_ ?_) | (with_reducible exact Below.size (by with_reducible assumption)) | go_size | (with_reducible refine Nat.le_trans ?_ (Below.size (by with_reducible assumption))) | (with_reducible refine Nat.le_trans ?_ (sizeAlloc _ _)) | (with_reducible refine Nat.le_trans ?_ (sizeSet _ _ _)) | (with_reducible refine Nat.le_trans ?_ (sizeDrew _))))⟩
      case measure => simp [intOf]; omega
    · obtain rfl : k = n := by omega
      go_wp2
      go_ret
      exact ⟨by rw [List.take_of_length_le (by rw [HL.out]; omega)]; rfl, by (repeat' (first | (with_reducible exact Below.refl _ _) | (with_reducible assumption) | (with_reducible refine Below.alloc ?_ ?_ _) | (with_reducible refine Below.drew ?_) | (with_reducible refine belowDrewN ?_ _) | (with_reducible refine Below.setCell ?_ ?_ _) | (with_reducible refine Below.via (by with_reducible assumption) ?_ ?_) | (with_reducible refine Below.viaD (by with_reducible assumption) ?_ ?_) | (with_reducible exact Below.size (by with_reducible assumption)) | go_size | (with_reducible refine Nat.le_trans ?_ (Below.size (by with_reducible assumption))) | (with_reducible refine Nat.le_trans ?_ (sizeAlloc _ _)) | (with_reducible refine Nat.le_trans ?_ (sizeSet _ _ _)) | (with_reducible refine Nat.le_trans ?_ (sizeDrew _))))⟩
end Go.Proofs.Ytaeeijjejkohjaa
