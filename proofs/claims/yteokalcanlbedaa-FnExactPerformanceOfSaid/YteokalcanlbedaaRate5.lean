/- SumExpected and PerformanceOf: both functions, and their laws. No conditions beyond lengths below 2^63. -/
import Derived.Test.YteokalcanlbedaaRate4
import Derived.Test.YteokalcanlbedaaLists
namespace Go.Proofs.Yteokalcanlbedaa
set_option linter.unusedSimpArgs false
set_option linter.unusedVariables false
open Go.RowKit

def suC (r : Int) (zs : List Int) : Int := if inB r 0 4000 && othersB zs then sumE r zs else 0
def suE (r : Int) (zs : List Int) : Int := if inB r 0 4000 && othersB zs then 0 else 2
theorem sSumExpected_any (r : Int) (A : Option Addr) (n c : Nat) (zs : List Int) (w : World) (hs : Sl w w.heap.size 1 A n (zs.map (Value.int .i64))) (hn : n ≤ 9223372036854775807) :
    Calls Try.prog 19 #[.int .i64 r, .slice A n c] w fun e w' => e = .returned (.tuple #[.int .i64 (suC r zs), .int .i64 (suE r zs)]) ∧ Below w.heap.size w w' := by
  cases h1 : inB r 0 4000
  case false =>
    go_enter Try.func19, Try.ntmps19
    go_wp2_with (first | (go_at_call 49; refine (l25Rating_any _ _).mono ?_; rintro e w_ ⟨rfl, rfl⟩))
    go_ret2
    exact ⟨by simp [suC, suE, h1], by (repeat' (first | (with_reducible exact Below.refl _ _) | (with_reducible assumption) | (with_reducible refine Below.alloc ?_ ?_ _) | (with_reducible refine Below.drew ?_) | (with_reducible refine belowDrewN ?_ _) | (with_reducible refine Below.setCell ?_ ?_ _) | (with_reducible refine Below.via (by with_reducible assumption) ?_ ?_) | (with_reducible exact Below.size (by with_reducible assumption)) | go_size | (with_reducible refine Nat.le_trans ?_ (Below.size (by with_reducible assumption))) | (with_reducible refine Nat.le_trans ?_ (sizeAlloc _ _)) | (with_reducible refine Nat.le_trans ?_ (sizeSet _ _ _)) | (with_reducible refine Nat.le_trans ?_ (sizeDrew _))))⟩
  case true =>
    obtain ⟨r1, r2⟩ := inB_of h1
    cases h2 : othersB zs
    case false =>
      go_enter Try.func19, Try.ntmps19
      go_wp2_with (first | (go_at_call 49; refine (l25Rating_any _ _).mono ?_; rintro e w_ ⟨rfl, rfl⟩) | (go_at_call 54; refine (l25Others_any _ _ _ zs _ hs hn).mono ?_; rintro e w_ ⟨rfl, rfl⟩))
      go_ret2
      exact ⟨by simp [suC, suE, h2], by (repeat' (first | (with_reducible exact Below.refl _ _) | (with_reducible assumption) | (with_reducible refine Below.alloc ?_ ?_ _) | (with_reducible refine Below.drew ?_) | (with_reducible refine belowDrewN ?_ _) | (with_reducible refine Below.setCell ?_ ?_ _) | (with_reducible refine Below.via (by with_reducible assumption) ?_ ?_) | (with_reducible exact Below.size (by with_reducible assumption)) | go_size | (with_reducible refine Nat.le_trans ?_ (Below.size (by with_reducible assumption))) | (with_reducible refine Nat.le_trans ?_ (sizeAlloc _ _)) | (with_reducible refine Nat.le_trans ?_ (sizeSet _ _ _)) | (with_reducible refine Nat.le_trans ?_ (sizeDrew _))))⟩
    case true =>
      obtain ⟨o1, o2⟩ := othersB_of h2
      have HO := Lib.hid o2
      have hl : n ≤ 100 := by rw [← hs.ints]; exact o1
      clear o1 o2
      go_enter Try.func19, Try.ntmps19
      go_wp2_with (first | (go_at_call 49; refine (l25Rating_any _ _).mono ?_; rintro e w_ ⟨rfl, rfl⟩) | (go_at_call 54; refine (l25Others_any _ _ _ zs _ hs hn).mono ?_; rintro e w_ ⟨rfl, rfl⟩) | (go_at_call 55; refine (l25Sum_any r A n c zs _ hs hl HO.out r1 r2).mono ?_; rintro e w1 ⟨rfl, hb1⟩; obtain ⟨hc1, hf1, hl1, hz1⟩ := bfacts hb1; (try simp only [World.size_alloc, World.size_setCell, World.size_drew] at hz1)))
      go_ret2
      exact ⟨by simp [suC, suE, h1, h2], by (repeat' (first | (with_reducible exact Below.refl _ _) | (with_reducible assumption) | (with_reducible refine Below.alloc ?_ ?_ _) | (with_reducible refine Below.drew ?_) | (with_reducible refine belowDrewN ?_ _) | (with_reducible refine Below.setCell ?_ ?_ _) | (with_reducible refine Below.via (by with_reducible assumption) ?_ ?_) | (with_reducible exact Below.size (by with_reducible assumption)) | go_size | (with_reducible refine Nat.le_trans ?_ (Below.size (by with_reducible assumption))) | (with_reducible refine Nat.le_trans ?_ (sizeAlloc _ _)) | (with_reducible refine Nat.le_trans ?_ (sizeSet _ _ _)) | (with_reducible refine Nat.le_trans ?_ (sizeDrew _))))⟩
theorem SumExpected_any (r : Int) (A : Option Addr) (n c : Nat) (zs : List Int) (w : World) (hs : Sl w w.heap.size 1 A n (zs.map (Value.int .i64))) (hn : n ≤ 9223372036854775807) :
    Calls Try.prog 21 #[.int .i64 r, .slice A n c] w fun e w' => e = .returned (.tuple #[.int .i64 (suC r zs), .int .i64 (suE r zs)]) ∧ Below w.heap.size w w' := by
  cases h1 : inB r 0 4000
  case false =>
    go_enter Try.func21, Try.ntmps21
    go_wp2_with (first | (go_at_call 47; refine (isRating_any _ _).mono ?_; rintro e w_ ⟨rfl, rfl⟩))
    go_ret2
    exact ⟨by simp [suC, suE, h1], by (repeat' (first | (with_reducible exact Below.refl _ _) | (with_reducible assumption) | (with_reducible refine Below.alloc ?_ ?_ _) | (with_reducible refine Below.drew ?_) | (with_reducible refine belowDrewN ?_ _) | (with_reducible refine Below.setCell ?_ ?_ _) | (with_reducible refine Below.via (by with_reducible assumption) ?_ ?_) | (with_reducible exact Below.size (by with_reducible assumption)) | go_size | (with_reducible refine Nat.le_trans ?_ (Below.size (by with_reducible assumption))) | (with_reducible refine Nat.le_trans ?_ (sizeAlloc _ _)) | (with_reducible refine Nat.le_trans ?_ (sizeSet _ _ _)) | (with_reducible refine Nat.le_trans ?_ (sizeDrew _))))⟩
  case true =>
    obtain ⟨r1, r2⟩ := inB_of h1
    cases h2 : othersB zs
    case false =>
      go_enter Try.func21, Try.ntmps21
      go_wp2_with (first | (go_at_call 47; refine (isRating_any _ _).mono ?_; rintro e w_ ⟨rfl, rfl⟩) | (go_at_call 56; refine (areOthers_any _ _ _ zs _ hs hn).mono ?_; rintro e w_ ⟨rfl, rfl⟩))
      go_ret2
      exact ⟨by simp [suC, suE, h2], by (repeat' (first | (with_reducible exact Below.refl _ _) | (with_reducible assumption) | (with_reducible refine Below.alloc ?_ ?_ _) | (with_reducible refine Below.drew ?_) | (with_reducible refine belowDrewN ?_ _) | (with_reducible refine Below.setCell ?_ ?_ _) | (with_reducible refine Below.via (by with_reducible assumption) ?_ ?_) | (with_reducible exact Below.size (by with_reducible assumption)) | go_size | (with_reducible refine Nat.le_trans ?_ (Below.size (by with_reducible assumption))) | (with_reducible refine Nat.le_trans ?_ (sizeAlloc _ _)) | (with_reducible refine Nat.le_trans ?_ (sizeSet _ _ _)) | (with_reducible refine Nat.le_trans ?_ (sizeDrew _))))⟩
    case true =>
      obtain ⟨o1, o2⟩ := othersB_of h2
      have HO := Lib.hid o2
      have hl : n ≤ 100 := by rw [← hs.ints]; exact o1
      clear o1 o2
      go_enter Try.func21, Try.ntmps21
      go_wp2_with (first | (go_at_call 47; refine (isRating_any _ _).mono ?_; rintro e w_ ⟨rfl, rfl⟩) | (go_at_call 56; refine (areOthers_any _ _ _ zs _ hs hn).mono ?_; rintro e w_ ⟨rfl, rfl⟩) | (go_at_call 57; refine (sumExpected_any r A n c zs _ hs hl HO.out r1 r2).mono ?_; rintro e w1 ⟨rfl, hb1⟩; obtain ⟨hc1, hf1, hl1, hz1⟩ := bfacts hb1; (try simp only [World.size_alloc, World.size_setCell, World.size_drew] at hz1)))
      go_ret2
      exact ⟨by simp [suC, suE, h1, h2], by (repeat' (first | (with_reducible exact Below.refl _ _) | (with_reducible assumption) | (with_reducible refine Below.alloc ?_ ?_ _) | (with_reducible refine Below.drew ?_) | (with_reducible refine belowDrewN ?_ _) | (with_reducible refine Below.setCell ?_ ?_ _) | (with_reducible refine Below.via (by with_reducible assumption) ?_ ?_) | (with_reducible exact Below.size (by with_reducible assumption)) | go_size | (with_reducible refine Nat.le_trans ?_ (Below.size (by with_reducible assumption))) | (with_reducible refine Nat.le_trans ?_ (sizeAlloc _ _)) | (with_reducible refine Nat.le_trans ?_ (sizeSet _ _ _)) | (with_reducible refine Nat.le_trans ?_ (sizeDrew _))))⟩
/-- A copy of a list of numbers reads as the list. -/
theorem Sl.copied {w : World} {zs : List Int} {n : Nat} (t : TypeId) (h : zs.length = n) : Sl (w.alloc (.cells (zs.map (Value.int .i64)).toArray t)) (w.alloc (.cells (zs.map (Value.int .i64)).toArray t)).heap.size 1 (some ⟨w.heap.size, 0, none⟩) n (zs.map (Value.int .i64)) :=
  ⟨by simp [h], fun _ => ⟨_, 0, rfl, by simp, fun j u hu => by rw [Nat.zero_add, World.cell?_alloc_at (hn := rfl)]; simpa using hu⟩⟩
set_option maxHeartbeats 400000 in
theorem su_walk (r : Int) (A : Option Addr) (n c : Nat) (zs : List Int) (w : World) (hs : Sl w w.heap.size 1 A n (zs.map (Value.int .i64))) (hn : n ≤ 9223372036854775807) : Calls Try.prog 6 #[.int .i64 r, .slice A n c] w fun e w' => e = .returned (.bool true) ∧ Below w.heap.size w w' := by
  by_cases hbig : 1048576 < n
  case pos =>
    go_enter Try.func6, Try.ntmps6
    go_wp2
    go_ret
    exact ⟨rfl, by (repeat' (first | (with_reducible exact Below.refl _ _) | (with_reducible assumption) | (with_reducible refine Below.alloc ?_ ?_ _) | (with_reducible refine Below.drew ?_) | (with_reducible refine belowDrewN ?_ _) | (with_reducible refine Below.setCell ?_ ?_ _) | (with_reducible refine Below.via (by with_reducible assumption) ?_ ?_) | (with_reducible exact Below.size (by with_reducible assumption)) | go_size | (with_reducible refine Nat.le_trans ?_ (Below.size (by with_reducible assumption))) | (with_reducible refine Nat.le_trans ?_ (sizeAlloc _ _)) | (with_reducible refine Nat.le_trans ?_ (sizeSet _ _ _)) | (with_reducible refine Nat.le_trans ?_ (sizeDrew _))))⟩
  case neg =>
    have hn2 : n ≤ 1048576 := by omega
    clear hbig
    go_enter Try.func6, Try.ntmps6
    go_wp2_with fail
    refine (toInt64S_any A n c zs _ hs hn2).mono ?_
    rintro e w1 ⟨rfl, hw1⟩
    have b1 : Below w.heap.size w w1 := by rw [hw1]; (repeat' (first | (with_reducible exact Below.refl _ _) | (with_reducible assumption) | (with_reducible refine Below.alloc ?_ ?_ _) | (with_reducible refine Below.drew ?_) | (with_reducible refine belowDrewN ?_ _) | (with_reducible refine Below.setCell ?_ ?_ _) | (with_reducible refine Below.via (by with_reducible assumption) ?_ ?_) | (with_reducible exact Below.size (by with_reducible assumption)) | go_size | (with_reducible refine Nat.le_trans ?_ (Below.size (by with_reducible assumption))) | (with_reducible refine Nat.le_trans ?_ (sizeAlloc _ _)) | (with_reducible refine Nat.le_trans ?_ (sizeSet _ _ _)) | (with_reducible refine Nat.le_trans ?_ (sizeDrew _))))
    have s1 : Sl w1 w1.heap.size 1 (some ⟨w.heap.size, 0, none⟩) n (zs.map (Value.int .i64)) := by rw [hw1]; exact Sl.copied _ hs.ints
    clear hw1
    go_wp2_with fail
    refine (sSumExpected_any r _ n n zs _ s1 hn).mono ?_
    rintro e w2 ⟨rfl, b2⟩
    go_wp2_with fail
    have s2 := (hs.later b1).later b2
    refine (toInt64S_any A n c zs _ s2 hn2).mono ?_
    rintro e w3 ⟨rfl, hw3⟩
    have b3 : Below w2.heap.size w2 w3 := by rw [hw3]; (repeat' (first | (with_reducible exact Below.refl _ _) | (with_reducible assumption) | (with_reducible refine Below.alloc ?_ ?_ _) | (with_reducible refine Below.drew ?_) | (with_reducible refine belowDrewN ?_ _) | (with_reducible refine Below.setCell ?_ ?_ _) | (with_reducible refine Below.via (by with_reducible assumption) ?_ ?_) | (with_reducible exact Below.size (by with_reducible assumption)) | go_size | (with_reducible refine Nat.le_trans ?_ (Below.size (by with_reducible assumption))) | (with_reducible refine Nat.le_trans ?_ (sizeAlloc _ _)) | (with_reducible refine Nat.le_trans ?_ (sizeSet _ _ _)) | (with_reducible refine Nat.le_trans ?_ (sizeDrew _))))
    have s3 : Sl w3 w3.heap.size 1 (some ⟨w2.heap.size, 0, none⟩) n (zs.map (Value.int .i64)) := by rw [hw3]; exact Sl.copied _ hs.ints
    clear hw3
    go_wp2_with fail
    refine (SumExpected_any r _ n n zs _ s3 hn).mono ?_
    rintro e w4 ⟨rfl, b4⟩
    go_wp2_with fail
    refine (toInt64S_any A n c zs _ ((s2.later b3).later b4) hn2).mono ?_
    rintro e w5 ⟨rfl, hw5⟩
    have b5 : Below w4.heap.size w4 w5 := by rw [hw5]; (repeat' (first | (with_reducible exact Below.refl _ _) | (with_reducible assumption) | (with_reducible refine Below.alloc ?_ ?_ _) | (with_reducible refine Below.drew ?_) | (with_reducible refine belowDrewN ?_ _) | (with_reducible refine Below.setCell ?_ ?_ _) | (with_reducible refine Below.via (by with_reducible assumption) ?_ ?_) | (with_reducible exact Below.size (by with_reducible assumption)) | go_size | (with_reducible refine Nat.le_trans ?_ (Below.size (by with_reducible assumption))) | (with_reducible refine Nat.le_trans ?_ (sizeAlloc _ _)) | (with_reducible refine Nat.le_trans ?_ (sizeSet _ _ _)) | (with_reducible refine Nat.le_trans ?_ (sizeDrew _))))
    have s5 : Sl w5 w5.heap.size 1 (some ⟨w4.heap.size, 0, none⟩) n (zs.map (Value.int .i64)) := by rw [hw5]; exact Sl.copied _ hs.ints
    clear hw5
    go_wp2_with fail
    refine (eqInt64S_any _ _ n n n n zs zs _ ((s3.later b4).later b5) s5 hn hn).mono ?_
    rintro e w6 ⟨rfl, b6⟩
    have hbeq : (zs == zs) = true := beq_self_eq_true zs
    go_wp2_with fail
    go_ret
    exact ⟨rfl, by (repeat' (first | (with_reducible exact Below.refl _ _) | (with_reducible assumption) | (with_reducible refine Below.alloc ?_ ?_ _) | (with_reducible refine Below.drew ?_) | (with_reducible refine belowDrewN ?_ _) | (with_reducible refine Below.setCell ?_ ?_ _) | (with_reducible refine Below.via (by with_reducible assumption) ?_ ?_) | (with_reducible exact Below.size (by with_reducible assumption)) | go_size | (with_reducible refine Nat.le_trans ?_ (Below.size (by with_reducible assumption))) | (with_reducible refine Nat.le_trans ?_ (sizeAlloc _ _)) | (with_reducible refine Nat.le_trans ?_ (sizeSet _ _ _)) | (with_reducible refine Nat.le_trans ?_ (sizeDrew _))))⟩
end Go.Proofs.Yteokalcanlbedaa
