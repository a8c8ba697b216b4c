/- SumExpected and PerformanceOf: both functions, and their laws. No conditions beyond lengths below 2^63. -/
import Derived.Test.YtaeeijjejkohjaaRate4
import Derived.Test.YtaeeijjejkohjaaLists
namespace Go.Proofs.Ytaeeijjejkohjaa
set_option linter.unusedSimpArgs false
set_option linter.unusedVariables false
open Go.RowKit

def suC (r : Int) (zs : List Int) : Int := if inB r 0 4000 && othersB zs then sumE r zs else 0
def suE (r : Int) (zs : List Int) : Int := if inB r 0 4000 && othersB zs then 0 else 2
theorem sSumExpected_any (r : Int) (A : Option Addr) (n c : Nat) (zs : List Int) (w : World) (hs : Sl w w.heap.size 1 A n (zs.map (Value.int .i64))) (hn : n ≤ 9223372036854775807) :
    Calls Try.prog 17 #[.int .i64 r, .slice A n c] w fun e w' => e = .returned (.tuple #[.int .i64 (suC r zs), .int .i64 (suE r zs)]) ∧ Below w.heap.size w w' := by
  cases h1 : inB r 0 4000
  case false =>
    go_enter Try.func17, Try.ntmps17
    go_wp2_with (first | (go_at_call 50; refine (l25Rating_any _ _).mono ?_; rintro e w_ ⟨rfl, rfl⟩))
    go_ret2
    exact ⟨by simp [suC, suE, h1], by (repeat' (first | (with_reducible exact Below.refl _ _) | (with_reducible assumption) | (with_reducible refine Below.alloc ?_ ?_ _) | (with_reducible refine Below.drew ?_) | (with_reducible refine belowDrewN ?_ _) | (with_reducible refine Below.setCell ?_ ?_ _) | (with_reducible refine Below.via (by with_reducible assumption) ?_ ?_) | (with_reducible refine Below.viaD (by with_reducible assumption) ?_ ?_) | (with_reducible exact Below.size (by with_reducible assumption)) | go_size | (with_reducible refine Nat.le_trans ?_ (Below.size (by with_reducible assumption))) | (with_reducible refine Nat.le_trans ?_ (sizeAlloc _ _)) | (with_reducible refine Nat.le_trans ?_ (sizeSet _ _ _)) | (with_reducible refine Nat.le_trans ?_ (sizeDrew _))))⟩
  case true =>
    obtain ⟨r1, r2⟩ := inB_of h1
    cases h2 : othersB zs
    case false =>
      go_enter Try.func17, Try.ntmps17
      go_wp2_with (first | (go_at_call 50; refine (l25Rating_any _ _).mono ?_; rintro e w_ ⟨rfl, rfl⟩) | (go_at_call 54; refine (l25Others_any _ _ _ zs _ hs hn).mono ?_; rintro e w_ ⟨rfl, rfl⟩))
      go_ret2
      exact ⟨by simp [suC, suE, h2], by (repeat' (first | (with_reducible exact Below.refl _ _) | (with_reducible assumption) | (with_reducible refine Below.alloc ?_ ?_ _) | (with_reducible refine Below.drew ?_) | (with_reducible refine belowDrewN ?_ _) | (with_reducible refine Below.setCell ?_ ?_ _) | (with_reducible refine Below.via (by with_reducible assumption) ?_ ?_) | (with_reducible refine Below.viaD (by with_reducible assumption) ?_ ?_) | (with_reducible exact Below.size (by with_reducible assumption)) | go_size | (with_reducible refine Nat.le_trans ?_ (Below.size (by with_reducible assumption))) | (with_reducible refine Nat.le_trans ?_ (sizeAlloc _ _)) | (with_reducible refine Nat.le_trans ?_ (sizeSet _ _ _)) | (with_reducible refine Nat.le_trans ?_ (sizeDrew _))))⟩
    case true =>
      obtain ⟨o1, o2⟩ := othersB_of h2
      have HO := Lib.hid o2
      have hl : n ≤ 100 := by rw [← hs.ints]; exact o1
      clear o1 o2
      go_enter Try.func17, Try.ntmps17
      go_wp2_with (first | (go_at_call 50; refine (l25Rating_any _ _).mono ?_; rintro e w_ ⟨rfl, rfl⟩) | (go_at_call 54; refine (l25Others_any _ _ _ zs _ hs hn).mono ?_; rintro e w_ ⟨rfl, rfl⟩) | (go_at_call 55; refine (l25Sum_any r A n c zs _ hs hl HO.out r1 r2).mono ?_; rintro e w1 ⟨rfl, hb1⟩; obtain ⟨hc1, hf1, hl1, hz1⟩ := bfacts hb1; (try simp only [World.size_alloc, World.size_setCell, World.size_drew] at hz1)))
      go_ret2
      exact ⟨by simp [suC, suE, h1, h2], by (repeat' (first | (with_reducible exact Below.refl _ _) | (with_reducible assumption) | (with_reducible refine Below.alloc ?_ ?_ _) | (with_reducible refine Below.drew ?_) | (with_reducible refine belowDrewN ?_ _) | (with_reducible refine Below.setCell ?_ ?_ _) | (with_reducible refine Below.via (by with_reducible assumption) ?_ ?_) | (with_reducible refine Below.viaD (by with_reducible assumption) ?_ ?_) | (with_reducible exact Below.size (by with_reducible assumption)) | go_size | (with_reducible refine Nat.le_trans ?_ (Below.size (by with_reducible assumption))) | (with_reducible refine Nat.le_trans ?_ (sizeAlloc _ _)) | (with_reducible refine Nat.le_trans ?_ (sizeSet _ _ _)) | (with_reducible refine Nat.le_trans ?_ (sizeDrew _))))⟩
theorem SumExpected_any (r : Int) (A : Option Addr) (n c : Nat) (zs : List Int) (w : World) (hs : Sl w w.heap.size 1 A n (zs.map (Value.int .i64))) (hn : n ≤ 9223372036854775807) :
    Calls Try.prog 16 #[.int .i64 r, .slice A n c] w fun e w' => e = .returned (.tuple #[.int .i64 (suC r zs), .int .i64 (suE r zs)]) ∧ Below w.heap.size w w' := by
  cases h1 : inB r 0 4000
  case false =>
    go_enter Try.func16, Try.ntmps16
    go_wp2_with (first | (go_at_call 48; refine (isRating_any _ _).mono ?_; rintro e w_ ⟨rfl, rfl⟩))
    go_ret2
    exact ⟨by simp [suC, suE, h1], by (repeat' (first | (with_reducible exact Below.refl _ _) | (with_reducible assumption) | (with_reducible refine Below.alloc ?_ ?_ _) | (with_reducible refine Below.drew ?_) | (with_reducible refine belowDrewN ?_ _) | (with_reducible refine Below.setCell ?_ ?_ _) | (with_reducible refine Below.via (by with_reducible assumption) ?_ ?_) | (with_reducible refine Below.viaD (by with_reducible assumption) ?_ ?_) | (with_reducible exact Below.size (by with_reducible assumption)) | go_size | (with_reducible refine Nat.le_trans ?_ (Below.size (by with_reducible assumption))) | (with_reducible refine Nat.le_trans ?_ (sizeAlloc _ _)) | (with_reducible refine Nat.le_trans ?_ (sizeSet _ _ _)) | (with_reducible refine Nat.le_trans ?_ (sizeDrew _))))⟩
  case true =>
    obtain ⟨r1, r2⟩ := inB_of h1
    cases h2 : othersB zs
    case false =>
      go_enter Try.func16, Try.ntmps16
      go_wp2_with (first | (go_at_call 48; refine (isRating_any _ _).mono ?_; rintro e w_ ⟨rfl, rfl⟩) | (go_at_call 52; refine (areOthers_any _ _ _ zs _ hs hn).mono ?_; rintro e w_ ⟨rfl, rfl⟩))
      go_ret2
      exact ⟨by simp [suC, suE, h2], by (repeat' (first | (with_reducible exact Below.refl _ _) | (with_reducible assumption) | (with_reducible refine Below.alloc ?_ ?_ _) | (with_reducible refine Below.drew ?_) | (with_reducible refine belowDrewN ?_ _) | (with_reducible refine Below.setCell ?_ ?_ _) | (with_reducible refine Below.via (by with_reducible assumption) ?_ ?_) | (with_reducible refine Below.viaD (by with_reducible assumption) ?_ ?_) | (with_reducible exact Below.size (by with_reducible assumption)) | go_size | (with_reducible refine Nat.le_trans ?_ (Below.size (by with_reducible assumption))) | (with_reducible refine Nat.le_trans ?_ (sizeAlloc _ _)) | (with_reducible refine Nat.le_trans ?_ (sizeSet _ _ _)) | (with_reducible refine Nat.le_trans ?_ (sizeDrew _))))⟩
    case true =>
      obtain ⟨o1, o2⟩ := othersB_of h2
      have HO := Lib.hid o2
      have hl : n ≤ 100 := by rw [← hs.ints]; exact o1
      clear o1 o2
      go_enter Try.func16, Try.ntmps16
      go_wp2_with (first | (go_at_call 48; refine (isRating_any _ _).mono ?_; rintro e w_ ⟨rfl, rfl⟩) | (go_at_call 52; refine (areOthers_any _ _ _ zs _ hs hn).mono ?_; rintro e w_ ⟨rfl, rfl⟩) | (go_at_call 53; refine (sumExpected_any r A n c zs _ hs hl HO.out r1 r2).mono ?_; rintro e w1 ⟨rfl, hb1⟩; obtain ⟨hc1, hf1, hl1, hz1⟩ := bfacts hb1; (try simp only [World.size_alloc, World.size_setCell, World.size_drew] at hz1)))
      go_ret2
      exact ⟨by simp [suC, suE, h1, h2], by (repeat' (first | (with_reducible exact Below.refl _ _) | (with_reducible assumption) | (with_reducible refine Below.alloc ?_ ?_ _) | (with_reducible refine Below.drew ?_) | (with_reducible refine belowDrewN ?_ _) | (with_reducible refine Below.setCell ?_ ?_ _) | (with_reducible refine Below.via (by with_reducible assumption) ?_ ?_) | (with_reducible refine Below.viaD (by with_reducible assumption) ?_ ?_) | (with_reducible exact Below.size (by with_reducible assumption)) | go_size | (with_reducible refine Nat.le_trans ?_ (Below.size (by with_reducible assumption))) | (with_reducible refine Nat.le_trans ?_ (sizeAlloc _ _)) | (with_reducible refine Nat.le_trans ?_ (sizeSet _ _ _)) | (with_reducible refine Nat.le_trans ?_ (sizeDrew _))))⟩
end Go.Proofs.Ytaeeijjejkohjaa
