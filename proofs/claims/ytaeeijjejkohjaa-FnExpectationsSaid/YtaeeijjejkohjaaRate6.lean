/- PerformanceOf: both functions, and the law. No conditions beyond lengths below 2^63. -/
import Derived.Test.YtaeeijjejkohjaaRate5
namespace Go.Proofs.Ytaeeijjejkohjaa
set_option linter.unusedSimpArgs false
set_option linter.unusedVariables false
open Go.RowKit

theorem expP_mono (n : Nat) : expP n ≤ expP (n + 1) := by
  rcases Nat.lt_or_ge n 800 with h | h
  · have : ∀ n, n < 800 → expP n ≤ expP (n + 1) := by decide +kernel
    exact this n h
  · rw [expP, expP, if_pos h, if_pos (by omega)]; omega
theorem expE_step (d : Int) : expE d ≤ expE (d + 1) := by
  rcases Int.lt_or_le d 0 with h | h
  · obtain ⟨n, rfl⟩ : ∃ n : Nat, d = -((n + 1 : Nat) : Int) := ⟨(-d - 1).toNat, by omega⟩
    rw [expE_neg _ (by omega)]
    rcases Nat.eq_zero_or_pos n with h0 | h0
    · subst h0; decide +kernel
    · have e : -((n + 1 : Nat) : Int) + 1 = -(n : Int) := by omega
      rw [e, expE_neg _ h0]
      have := expP_mono n
      omega
  · obtain ⟨n, rfl⟩ := Int.eq_ofNat_of_zero_le h
    rw [expE_nat, show (n : Int) + 1 = ((n + 1 : Nat) : Int) from by omega, expE_nat]
    exact expP_mono n
theorem sumE_step (r : Int) (zs : List Int) : sumE r zs ≤ sumE (r + 1) zs := by
  induction zs with
  | nil => simp [sumE]
  | cons z zs ih =>
    have h := expE_step (r - z)
    have e : sumE r (z :: zs) = expE (r - z) + sumE r zs := by simp [sumE]
    have e' : sumE (r + 1) (z :: zs) = expE (r - z + 1) + sumE (r + 1) zs := by simp [sumE]; congr 1; omega
    rw [e, e']
    omega
theorem sumE_le (zs : List Int) (r : Int) (k : Nat) : sumE r zs ≤ sumE (r + k) zs := by
  induction k with
  | zero => simp
  | succ k ih => have := sumE_step (r + k) zs; rw [show r + ((k + 1 : Nat) : Int) = r + k + 1 from by omega]; omega
theorem sumE_mono {zs : List Int} {r r' : Int} (h : r ≤ r') : sumE r zs ≤ sumE r' zs := by
  have := sumE_le zs r (r' - r).toNat
  rwa [show r + ((r' - r).toNat : Int) = r' from by omega] at this
/-- The greatest rating from 0 to k at which at most 'want' is expected. -/
def perfD (zs : List Int) (want : Int) : Nat → Option Int
  | 0 => if sumE 0 zs ≤ want then some 0 else none
  | k + 1 => if sumE ((k + 1 : Nat) : Int) zs ≤ want then some ((k + 1 : Nat) : Int) else perfD zs want k
theorem perfD_hit {zs : List Int} {want : Int} {k : Nat} (h : sumE k zs ≤ want) : perfD zs want k = some (k : Int) := by
  cases k with
  | zero => exact if_pos h
  | succ k => rw [perfD, if_pos h]
theorem perfD_miss {zs : List Int} {want : Int} {k : Nat} (h : ¬ sumE ((k + 1 : Nat) : Int) zs ≤ want) : perfD zs want (k + 1) = perfD zs want k := by
  rw [perfD, if_neg h]
theorem perfD_none {zs : List Int} {want : Int} {k : Nat} (h : ¬ sumE 0 zs ≤ want) : perfD zs want k = none := by
  induction k with
  | zero => rw [perfD, if_neg h]
  | succ k ih =>
    rw [perfD, if_neg, ih]
    have := sumE_mono (zs := zs) (r := 0) (r' := ((k + 1 : Nat) : Int)) (by omega)
    omega
theorem perfD_at {zs : List Int} {want : Int} {k m : Nat} (hk : k ≤ m) (h : sumE k zs ≤ want) (hm : k = m ∨ ¬ sumE ((k + 1 : Nat) : Int) zs ≤ want) : perfD zs want m = some (k : Int) := by
  induction m with
  | zero => obtain rfl : k = 0 := by omega
            exact perfD_hit h
  | succ m ih =>
    rcases Nat.lt_or_ge k (m + 1) with hlt | hge
    · have hn : ¬ sumE ((k + 1 : Nat) : Int) zs ≤ want := by
        rcases hm with h' | h'
        · omega
        · exact h'
      have hn2 : ¬ sumE ((m + 1 : Nat) : Int) zs ≤ want := by
        have := sumE_mono (zs := zs) (r := ((k + 1 : Nat) : Int)) (r' := ((m + 1 : Nat) : Int)) (by omega)
        omega
      rw [perfD_miss hn2]
      refine ih (by omega) ?_
      rcases Nat.lt_or_ge k m with h' | h'
      · exact .inr hn
      · exact .inl (by omega)
    · obtain rfl : k = m + 1 := by omega
      exact perfD_hit h
@[irreducible] def top : Nat := 4000
theorem top_eq : top = 4000 := by unfold top; rfl
/-- What is left of the search when the ratings below k are still to be asked. -/
def Left (zs : List Int) (want : Int) (k : Nat) : Prop := (k = 0 → perfD zs want top = none) ∧ ∀ j, k = j + 1 → perfD zs want top = perfD zs want j
theorem Left.first (zs : List Int) (want : Int) : Left zs want 4001 :=
  ⟨fun h => by omega, fun j h => by obtain rfl : j = top := by rw [top_eq]; omega
                                    rfl⟩
theorem Left.next {zs : List Int} {want : Int} {j : Nat} (h : Left zs want (j + 1)) (hq : ¬ sumE j zs ≤ want) : Left zs want j := by
  refine ⟨fun h0 => ?_, fun i hi => ?_⟩
  · subst h0; rw [h.2 0 rfl]; exact perfD_none hq
  · subst hi; rw [h.2 _ rfl]; exact perfD_miss hq
def pfOk (zs : List Int) (s : Int) : Bool := othersB zs && inB s 0 (2 * zs.length)
def pfC (zs : List Int) (s : Int) : Int := if pfOk zs s then (perfD zs (500 * s) top).getD 0 else 0
def pfE (zs : List Int) (s : Int) : Int := if pfOk zs s then (if (perfD zs (500 * s) top).isSome then 0 else 6) else 2
theorem pfC_no {zs : List Int} {s : Int} (h : pfOk zs s = false) : pfC zs s = 0 := by rw [pfC, h]; rfl
theorem pfE_no {zs : List Int} {s : Int} (h : pfOk zs s = false) : pfE zs s = 2 := by rw [pfE, h]; rfl
theorem pfC_some {zs : List Int} {s v : Int} (h : pfOk zs s = true) (hp : perfD zs (500 * s) top = some v) : pfC zs s = v := by rw [pfC, h, hp]; rfl
theorem pfE_some {zs : List Int} {s v : Int} (h : pfOk zs s = true) (hp : perfD zs (500 * s) top = some v) : pfE zs s = 0 := by rw [pfE, h, hp]; rfl
theorem pfC_none {zs : List Int} {s : Int} (h : pfOk zs s = true) (hp : perfD zs (500 * s) top = none) : pfC zs s = 0 := by rw [pfC, h, hp]; rfl
theorem pfE_none {zs : List Int} {s : Int} (h : pfOk zs s = true) (hp : perfD zs (500 * s) top = none) : pfE zs s = 6 := by rw [pfE, h, hp]; rfl

set_option maxHeartbeats 400000 in
theorem PerformanceOf_any (A : Option Addr) (n c : Nat) (zs : List Int) (s : Int) (w : World) (hs : Sl w w.heap.size 1 A n (zs.map (Value.int .i64))) (hn : n ≤ 1048576) :
    Calls Try.prog 19 #[.slice A n c, .int .i64 s] w fun e w' => e = .returned (.tuple #[.int .i64 (pfC zs s), .int .i64 (pfE zs s)]) ∧ Below w.heap.size w w' := by
  have HL := Lib.hid hs.ints
  have hn' : n ≤ 9223372036854775807 := by omega
  cases h2 : othersB zs
  case false =>
    have hno : pfOk zs s = false := by rw [pfOk, h2]; rfl
    have HC := Lib.hid (pfC_no hno)
    have HE := Lib.hid (pfE_no hno)
    clear hno
    go_enter Try.func19, Try.ntmps19
    go_wp2_with (first | (go_at_call 52; refine (areOthers_any _ _ _ zs _ hs hn').mono ?_; rintro e w_ ⟨rfl, rfl⟩))
    go_ret2
    exact ⟨by rw [HC.out, HE.out]; rfl, by (repeat' (first | (with_reducible exact Below.refl _ _) | (with_reducible assumption) | (with_reducible refine Below.alloc ?_ ?_ _) | (with_reducible refine Below.drew ?_) | (with_reducible refine belowDrewN ?_ _) | (with_reducible refine Below.setCell ?_ ?_ _) | (with_reducible refine Below.via (by with_reducible assumption) ?_ ?_) | (with_reducible refine Below.viaD (by with_reducible assumption) ?_ ?_) | (with_reducible exact Below.size (by with_reducible assumption)) | go_size | (with_reducible refine Nat.le_trans ?_ (Below.size (by with_reducible assumption))) | (with_reducible refine Nat.le_trans ?_ (sizeAlloc _ _)) | (with_reducible refine Nat.le_trans ?_ (sizeSet _ _ _)) | (with_reducible refine Nat.le_trans ?_ (sizeDrew _))))⟩
  case true =>
    cases h3 : inB s 0 (2 * (n : Int))
    case false =>
      have hno : pfOk zs s = false := by rw [pfOk, HL.out, h3]; simp
      have HC := Lib.hid (pfC_no hno)
      have HE := Lib.hid (pfE_no hno)
      clear hno
      go_enter Try.func19, Try.ntmps19
      go_wp2_with (first | (go_at_call 52; refine (areOthers_any _ _ _ zs _ hs hn').mono ?_; rintro e w_ ⟨rfl, rfl⟩) | (go_at_call 42; refine (between_any _ _ _ _).mono ?_; rintro e w_ ⟨rfl, rfl⟩))
      go_ret2
      exact ⟨by rw [HC.out, HE.out]; rfl, by (repeat' (first | (with_reducible exact Below.refl _ _) | (with_reducible assumption) | (with_reducible refine Below.alloc ?_ ?_ _) | (with_reducible refine Below.drew ?_) | (with_reducible refine belowDrewN ?_ _) | (with_reducible refine Below.setCell ?_ ?_ _) | (with_reducible refine Below.via (by with_reducible assumption) ?_ ?_) | (with_reducible refine Below.viaD (by with_reducible assumption) ?_ ?_) | (with_reducible exact Below.size (by with_reducible assumption)) | go_size | (with_reducible refine Nat.le_trans ?_ (Below.size (by with_reducible assumption))) | (with_reducible refine Nat.le_trans ?_ (sizeAlloc _ _)) | (with_reducible refine Nat.le_trans ?_ (sizeSet _ _ _)) | (with_reducible refine Nat.le_trans ?_ (sizeDrew _))))⟩
    case true =>
      have HY : Hid (pfOk zs s = true) := by unfold Hid; rw [pfOk, HL.out, h2, h3]; rfl
      obtain ⟨o1, o2⟩ := othersB_of h2
      have HO := Lib.hid o2
      have hl : n ≤ 100 := by rw [← hs.ints]; exact o1
      obtain ⟨t1, t2⟩ := inB_of h3
      clear o1 o2
      go_enter Try.func19, Try.ntmps19
      go_wp2_with (first | (go_at_call 52; refine (areOthers_any _ _ _ zs _ hs hn').mono ?_; rintro e w_ ⟨rfl, rfl⟩) | (go_at_call 42; refine (between_any _ _ _ _).mono ?_; rintro e w_ ⟨rfl, rfl⟩))
      go_loopw [6] (fun r wr => ∃ k : Nat, k ≤ 4001 ∧ r = .int .i64 ((k : Int) - 1) ∧ Left zs (500 * s) k ∧ Below w.heap.size w wr) (fun r _ => (intOf r + 1).toNat)
      case atStart => exact ⟨4001, by omega, rfl, Left.first _ _, Below.refl _ _⟩
      case round =>
        obtain ⟨k, hk, rfl, HP, hbl⟩ := hrel
        rcases Nat.eq_zero_or_pos k with h0 | h0
        · subst h0
          have hp : perfD zs (500 * s) top = none := HP.1 rfl
          have HC := Lib.hid (pfC_none HY.out hp)
          have HE := Lib.hid (pfE_none HY.out hp)
          clear hp
          go_wp2_with fail
          go_ret2
          exact ⟨by rw [HC.out, HE.out]; rfl, by (repeat' (first | (with_reducible exact Below.refl _ _) | (with_reducible assumption) | (with_reducible refine Below.alloc ?_ ?_ _) | (with_reducible refine Below.drew ?_) | (with_reducible refine belowDrewN ?_ _) | (with_reducible refine Below.setCell ?_ ?_ _) | (with_reducible refine Below.via (by with_reducible assumption) ?_ ?_) | (with_reducible refine Below.viaD (by with_reducible assumption) ?_ ?_) | (with_reducible exact Below.size (by with_reducible assumption)) | go_size | (with_reducible refine Nat.le_trans ?_ (Below.size (by with_reducible assumption))) | (with_reducible refine Nat.le_trans ?_ (sizeAlloc _ _)) | (with_reducible refine Nat.le_trans ?_ (sizeSet _ _ _)) | (with_reducible refine Nat.le_trans ?_ (sizeDrew _))))⟩
        · obtain ⟨j, rfl⟩ : ∃ j, k = j + 1 := ⟨k - 1, by omega⟩
          have e1 : (((j + 1 : Nat) : Int) - 1) = (j : Int) := by omega
          rw [e1]
          clear e1
          by_cases hq : sumE j zs ≤ 500 * s
          · have hp : perfD zs (500 * s) top = some (j : Int) := by rw [HP.2 j rfl]; exact perfD_hit hq
            have HC := Lib.hid (pfC_some HY.out hp)
            have HE := Lib.hid (pfE_some HY.out hp)
            clear hp
            go_wp2_with (go_at_call 53; refine (sumExpected_any _ A n c zs _ ((hs.below hbl).mono hbl.size) hl HO.out (by omega) (by omega)).mono ?_; rintro e w1 ⟨rfl, hb1⟩; obtain ⟨hc1, hf1, hl1, hz1⟩ := bfacts hb1; (try simp only [World.size_alloc, World.size_setCell, World.size_drew] at hz1))
            go_ret2
            exact ⟨by rw [HC.out, HE.out]; rfl, by (repeat' (first | (with_reducible exact Below.refl _ _) | (with_reducible assumption) | (with_reducible refine Below.alloc ?_ ?_ _) | (with_reducible refine Below.drew ?_) | (with_reducible refine belowDrewN ?_ _) | (with_reducible refine Below.setCell ?_ ?_ _) | (with_reducible refine Below.via (by with_reducible assumption) ?_ ?_) | (with_reducible refine Below.viaD (by with_reducible assumption) ?_ ?_) | (with_reducible exact Below.size (by with_reducible assumption)) | go_size | (with_reducible refine Nat.le_trans ?_ (Below.size (by with_reducible assumption))) | (with_reducible refine Nat.le_trans ?_ (sizeAlloc _ _)) | (with_reducible refine Nat.le_trans ?_ (sizeSet _ _ _)) | (with_reducible refine Nat.le_trans ?_ (sizeDrew _))))⟩
          · have hp := HP.next hq
            go_wp2_with (go_at_call 53; refine (sumExpected_any _ A n c zs _ ((hs.below hbl).mono hbl.size) hl HO.out (by omega) (by omega)).mono ?_; rintro e w1 ⟨rfl, hb1⟩; obtain ⟨hc1, hf1, hl1, hz1⟩ := bfacts hb1; (try simp only [World.size_alloc, World.size_setCell, World.size_drew] at hz1))
            go_roundw
            case rel => exact ⟨j, by omega, rfl, hp, by (repeat' (first | (with_reducible exact Below.refl _ _) | (with_reducible assumption) | (with_reducible refine Below.alloc ?_ ?_ _) | (with_reducible refine Below.drew ?_) | (with_reducible refine belowDrewN ?_ _) | (with_reducible refine Below.setCell ?_ ?_ _) | (with_reducible refine Below.via (by with_reducible assumption) ?_ ?_) | (with_reducible refine Below.viaD (by with_reducible assumption) ?_ ?_) | (with_reducible exact Below.size (by with_reducible assumption)) | go_size | (with_reducible refine Nat.le_trans ?_ (Below.size (by with_reducible assumption))) | (with_reducible refine Nat.le_trans ?_ (sizeAlloc _ _)) | (with_reducible refine Nat.le_trans ?_ (sizeSet _ _ _)) | (with_reducible refine Nat.le_trans ?_ (sizeDrew _))))⟩
            case measure => first | (simp [intOf]; done) | (simp [intOf]; omega)

set_option maxHeartbeats 400000 in
theorem sPerformanceOf_any (A : Option Addr) (n c : Nat) (zs : List Int) (s : Int) (w : World) (hs : Sl w w.heap.size 1 A n (zs.map (Value.int .i64))) (hn : n ≤ 1048576) :
    Calls Try.prog 20 #[.slice A n c, .int .i64 s] w fun e w' => e = .returned (.tuple #[.int .i64 (pfC zs s), .int .i64 (pfE zs s)]) ∧ Below w.heap.size w w' := by
  have HL := Lib.hid hs.ints
  have hn' : n ≤ 9223372036854775807 := by omega
  cases h2 : othersB zs
  case false =>
    have hno : pfOk zs s = false := by rw [pfOk, h2]; rfl
    have HC := Lib.hid (pfC_no hno)
    have HE := Lib.hid (pfE_no hno)
    clear hno
    go_enter Try.func20, Try.ntmps20
    go_wp2_with (first | (go_at_call 54; refine (l25Others_any _ _ _ zs _ hs hn').mono ?_; rintro e w_ ⟨rfl, rfl⟩))
    go_ret2
    exact ⟨by rw [HC.out, HE.out]; rfl, by (repeat' (first | (with_reducible exact Below.refl _ _) | (with_reducible assumption) | (with_reducible refine Below.alloc ?_ ?_ _) | (with_reducible refine Below.drew ?_) | (with_reducible refine belowDrewN ?_ _) | (with_reducible refine Below.setCell ?_ ?_ _) | (with_reducible refine Below.via (by with_reducible assumption) ?_ ?_) | (with_reducible refine Below.viaD (by with_reducible assumption) ?_ ?_) | (with_reducible exact Below.size (by with_reducible assumption)) | go_size | (with_reducible refine Nat.le_trans ?_ (Below.size (by with_reducible assumption))) | (with_reducible refine Nat.le_trans ?_ (sizeAlloc _ _)) | (with_reducible refine Nat.le_trans ?_ (sizeSet _ _ _)) | (with_reducible refine Nat.le_trans ?_ (sizeDrew _))))⟩
  case true =>
    cases h3 : inB s 0 (2 * (n : Int))
    case false =>
      have hno : pfOk zs s = false := by rw [pfOk, HL.out, h3]; simp
      have HC := Lib.hid (pfC_no hno)
      have HE := Lib.hid (pfE_no hno)
      clear hno
      go_enter Try.func20, Try.ntmps20
      go_wp2_with (first | (go_at_call 54; refine (l25Others_any _ _ _ zs _ hs hn').mono ?_; rintro e w_ ⟨rfl, rfl⟩) | (go_at_call 39; refine (l00In_any _ _ _ _).mono ?_; rintro e w_ ⟨rfl, rfl⟩))
      go_ret2
      exact ⟨by rw [HC.out, HE.out]; rfl, by (repeat' (first | (with_reducible exact Below.refl _ _) | (with_reducible assumption) | (with_reducible refine Below.alloc ?_ ?_ _) | (with_reducible refine Below.drew ?_) | (with_reducible refine belowDrewN ?_ _) | (with_reducible refine Below.setCell ?_ ?_ _) | (with_reducible refine Below.via (by with_reducible assumption) ?_ ?_) | (with_reducible refine Below.viaD (by with_reducible assumption) ?_ ?_) | (with_reducible exact Below.size (by with_reducible assumption)) | go_size | (with_reducible refine Nat.le_trans ?_ (Below.size (by with_reducible assumption))) | (with_reducible refine Nat.le_trans ?_ (sizeAlloc _ _)) | (with_reducible refine Nat.le_trans ?_ (sizeSet _ _ _)) | (with_reducible refine Nat.le_trans ?_ (sizeDrew _))))⟩
    case true =>
      have HY : Hid (pfOk zs s = true) := by unfold Hid; rw [pfOk, HL.out, h2, h3]; rfl
      obtain ⟨o1, o2⟩ := othersB_of h2
      have HO := Lib.hid o2
      have hl : n ≤ 100 := by rw [← hs.ints]; exact o1
      obtain ⟨t1, t2⟩ := inB_of h3
      clear o1 o2
      by_cases hq : sumE 0 zs ≤ 500 * s
      case neg =>
        have hp : perfD zs (500 * s) top = none := perfD_none hq
        have HC := Lib.hid (pfC_none HY.out hp)
        have HE := Lib.hid (pfE_none HY.out hp)
        clear hp
        go_enter Try.func20, Try.ntmps20
        go_wp2_with (first | (go_at_call 54; refine (l25Others_any _ _ _ zs _ hs hn').mono ?_; rintro e w_ ⟨rfl, rfl⟩) | (go_at_call 39; refine (l00In_any _ _ _ _).mono ?_; rintro e w_ ⟨rfl, rfl⟩) | (go_at_call 55; refine (l25Sum_any _ A n c zs _ hs hl HO.out (by omega) (by omega)).mono ?_; rintro e w1 ⟨rfl, hb1⟩; obtain ⟨hc1, hf1, hl1, hz1⟩ := bfacts hb1; (try simp only [World.size_alloc, World.size_setCell, World.size_drew] at hz1)))
        go_ret2
        exact ⟨by rw [HC.out, HE.out]; rfl, by (repeat' (first | (with_reducible exact Below.refl _ _) | (with_reducible assumption) | (with_reducible refine Below.alloc ?_ ?_ _) | (with_reducible refine Below.drew ?_) | (with_reducible refine belowDrewN ?_ _) | (with_reducible refine Below.setCell ?_ ?_ _) | (with_reducible refine Below.via (by with_reducible assumption) ?_ ?_) | (with_reducible refine Below.viaD (by with_reducible assumption) ?_ ?_) | (with_reducible exact Below.size (by with_reducible assumption)) | go_size | (with_reducible refine Nat.le_trans ?_ (Below.size (by with_reducible assumption))) | (with_reducible refine Nat.le_trans ?_ (sizeAlloc _ _)) | (with_reducible refine Nat.le_trans ?_ (sizeSet _ _ _)) | (with_reducible refine Nat.le_trans ?_ (sizeDrew _))))⟩
      case pos =>
        have HQ := Lib.hid hq
        go_enter Try.func20, Try.ntmps20
        go_wp2_with (first | (go_at_call 54; refine (l25Others_any _ _ _ zs _ hs hn').mono ?_; rintro e w_ ⟨rfl, rfl⟩) | (go_at_call 39; refine (l00In_any _ _ _ _).mono ?_; rintro e w_ ⟨rfl, rfl⟩) | (go_at_call 55; refine (l25Sum_any _ A n c zs _ hs hl HO.out (by omega) (by omega)).mono ?_; rintro e w1 ⟨rfl, hb1⟩; obtain ⟨hc1, hf1, hl1, hz1⟩ := bfacts hb1; (try simp only [World.size_alloc, World.size_setCell, World.size_drew] at hz1)))
        go_loopw [7, 8] (fun lo hi wr => ∃ k m : Nat, k ≤ m ∧ m ≤ 4000 ∧ lo = .int .i64 k ∧ hi = .int .i64 m ∧ Hid (sumE k zs ≤ 500 * s) ∧ Hid (m = 4000 ∨ 500 * s < sumE ((m + 1 : Nat) : Int) zs) ∧ Below w.heap.size w wr) (fun lo hi _ => (intOf hi - intOf lo).toNat)
        case atStart => exact ⟨0, 4000, by omega, by omega, rfl, rfl, HQ.out, .inl rfl, by (repeat' (first | (with_reducible exact Below.refl _ _) | (with_reducible assumption) | (with_reducible refine Below.alloc ?_ ?_ _) | (with_reducible refine Below.drew ?_) | (with_reducible refine belowDrewN ?_ _) | (with_reducible refine Below.setCell ?_ ?_ _) | (with_reducible refine Below.via (by with_reducible assumption) ?_ ?_) | (with_reducible refine Below.viaD (by with_reducible assumption) ?_ ?_) | (with_reducible exact Below.size (by with_reducible assumption)) | go_size | (with_reducible refine Nat.le_trans ?_ (Below.size (by with_reducible assumption))) | (with_reducible refine Nat.le_trans ?_ (sizeAlloc _ _)) | (with_reducible refine Nat.le_trans ?_ (sizeSet _ _ _)) | (with_reducible refine Nat.le_trans ?_ (sizeDrew _))))⟩
        case round =>
          obtain ⟨k, m, hkm, hm, rfl, rfl, HK, HM, hbl⟩ := hrel
          by_cases hlt : k < m
          · obtain ⟨d, hd⟩ : ∃ d : Nat, d = (k + m + 1) / 2 := ⟨_, rfl⟩
            have hd' : ((k : Int) + m + 1) / 2 = (d : Int) := by omega
            have d1 : k < d := by omega
            have d2 : d ≤ m := by omega
            clear hd
            by_cases hq2 : sumE d zs ≤ 500 * s
            · have HQ2 := Lib.hid hq2
              go_wp2_with (go_at_call 55; refine (l25Sum_any _ A n c zs _ ((hs.below hbl).mono hbl.size) hl HO.out (by omega) (by omega)).mono ?_; rintro e w2 ⟨rfl, hb2⟩; obtain ⟨hc2, hf2, hl2, hz2⟩ := bfacts hb2; (try simp only [World.size_alloc, World.size_setCell, World.size_drew] at hz2))
              go_roundw
              case rel => exact ⟨d, m, d2, hm, rfl, rfl, HQ2.out, HM.out, by (repeat' (first | (with_reducible exact Below.refl _ _) | (with_reducible assumption) | (with_reducible refine Below.alloc ?_ ?_ _) | (with_reducible refine Below.drew ?_) | (with_reducible refine belowDrewN ?_ _) | (with_reducible refine Below.setCell ?_ ?_ _) | (with_reducible refine Below.via (by with_reducible assumption) ?_ ?_) | (with_reducible refine Below.viaD (by with_reducible assumption) ?_ ?_) | (with_reducible exact Below.size (by with_reducible assumption)) | go_size | (with_reducible refine Nat.le_trans ?_ (Below.size (by with_reducible assumption))) | (with_reducible refine Nat.le_trans ?_ (sizeAlloc _ _)) | (with_reducible refine Nat.le_trans ?_ (sizeSet _ _ _)) | (with_reducible refine Nat.le_trans ?_ (sizeDrew _))))⟩
              case measure => first | (simp [intOf]; done) | (simp [intOf]; omega)
            · have hq3 : 500 * s < sumE d zs := by omega
              have HQ2 := Lib.hid hq3
              clear hq2
              go_wp2_with (go_at_call 55; refine (l25Sum_any _ A n c zs _ ((hs.below hbl).mono hbl.size) hl HO.out (by omega) (by omega)).mono ?_; rintro e w2 ⟨rfl, hb2⟩; obtain ⟨hc2, hf2, hl2, hz2⟩ := bfacts hb2; (try simp only [World.size_alloc, World.size_setCell, World.size_drew] at hz2))
              go_roundw
              case rel => exact ⟨k, d - 1, by omega, by omega, rfl, by go_num, HK.out, .inr (by rw [show d - 1 + 1 = d from by omega]; exact HQ2.out), by (repeat' (first | (with_reducible exact Below.refl _ _) | (with_reducible assumption) | (with_reducible refine Below.alloc ?_ ?_ _) | (with_reducible refine Below.drew ?_) | (with_reducible refine belowDrewN ?_ _) | (with_reducible refine Below.setCell ?_ ?_ _) | (with_reducible refine Below.via (by with_reducible assumption) ?_ ?_) | (with_reducible refine Below.viaD (by with_reducible assumption) ?_ ?_) | (with_reducible exact Below.size (by with_reducible assumption)) | go_size | (with_reducible refine Nat.le_trans ?_ (Below.size (by with_reducible assumption))) | (with_reducible refine Nat.le_trans ?_ (sizeAlloc _ _)) | (with_reducible refine Nat.le_trans ?_ (sizeSet _ _ _)) | (with_reducible refine Nat.le_trans ?_ (sizeDrew _))))⟩
              case measure => first | (simp [intOf]; done) | (simp [intOf]; omega)
          · obtain rfl : k = m := by omega
            have hp : perfD zs (500 * s) top = some (k : Int) := perfD_at (by rw [top_eq]; exact hm) HK.out (by rw [top_eq]; rcases HM.out with h | h; exact .inl h; exact .inr (by omega))
            have HC := Lib.hid (pfC_some HY.out hp)
            have HE := Lib.hid (pfE_some HY.out hp)
            clear hp
            go_wp2_with fail
            go_ret2
            exact ⟨by rw [HC.out, HE.out]; rfl, by (repeat' (first | (with_reducible exact Below.refl _ _) | (with_reducible assumption) | (with_reducible refine Below.alloc ?_ ?_ _) | (with_reducible refine Below.drew ?_) | (with_reducible refine belowDrewN ?_ _) | (with_reducible refine Below.setCell ?_ ?_ _) | (with_reducible refine Below.via (by with_reducible assumption) ?_ ?_) | (with_reducible refine Below.viaD (by with_reducible assumption) ?_ ?_) | (with_reducible exact Below.size (by with_reducible assumption)) | go_size | (with_reducible refine Nat.le_trans ?_ (Below.size (by with_reducible assumption))) | (with_reducible refine Nat.le_trans ?_ (sizeAlloc _ _)) | (with_reducible refine Nat.le_trans ?_ (sizeSet _ _ _)) | (with_reducible refine Nat.le_trans ?_ (sizeDrew _))))⟩
end Go.Proofs.Ytaeeijjejkohjaa
