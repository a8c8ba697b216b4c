/- NewClock: both functions, and the law. No conditions. -/
import Derived.Test.YtbnccmdbplmmkaaClock6
import Derived.Test.YtbnccmdbplmmkaaInt64S
import Derived.Test.YtbnccmdbplmmkaaApp
namespace Go.Proofs.Ytbnccmdbplmmkaa
set_option linter.unusedSimpArgs false
set_option linter.unusedVariables false
open Go.RowKit

/-- What NewClock returns: the times, increment, delay, the code. -/
def ncR (l i d : Int) : List Int × Int × Int × Int := if inB l 1 36000000 && tB i && tB d then ([l, l], i, d, 0) else ([], 0, 0, 2)
theorem quad {x x' : List Int} {y z u y' z' u' : Int} (h : (x', y', z', u') = (x, y, z, u)) : x' = x ∧ y' = y ∧ z' = z ∧ u' = u := by
  injection h with h1 h2
  injection h2 with h2 h3
  injection h3 with h3 h4
  exact ⟨h1, h2, h3, h4⟩
def NcPost (t : TypeId) (zs : List Int) (i d code : Int) (w : World) (e : Ending) (w' : World) : Prop :=
  ∃ (A : Option Addr) (g q cap : Nat), e = .returned (.tuple #[.agg #[.slice A q cap, .int .i64 i, .int .i64 d, .int .i64 0, .int .i64 0, .bool false, .bool false], .int .i64 code]) ∧ w.heap.size ≤ g ∧ g < w'.heap.size ∧ Own w' g t 1 A q zs ∧ Below w.heap.size w w'
theorem own_none (w : World) (g : Nat) (t : TypeId) (m : Nat) (A : Option Addr) : Own w g t m A 0 [] := ⟨by simp, fun h => absurd h (by omega)⟩
theorem own_two {w : World} {g : Nat} {t : TypeId} {x y : Int} (h : Blk w g t #[.int .i64 x, .int .i64 y]) : Own w g t 1 (some ⟨g, 0, none⟩) 2 [x, y] := ⟨rfl, fun _ => ⟨rfl, [], by simpa using h⟩⟩
set_option maxHeartbeats 1000000 in
theorem NewClock_any (l i d : Int) (zs : List Int) (i' d' code : Int) (hr : ncR l i d = (zs, i', d', code)) (w : World) :
    Calls Try.prog 9 #[.int .i64 l, .int .i64 i, .int .i64 d] w (NcPost 2 zs i' d' code w) := by
  unfold ncR at hr
  cases q1 : inB l 1 36000000
  case false =>
    rw [q1] at hr
    obtain ⟨rfl, rfl, rfl, rfl⟩ := quad hr
    clear hr
    go_enter Try.func9, Try.ntmps9
    go_wp2_with (first | (go_at_call 25; refine (between_any _ _ _ _).mono ?_; rintro e w_ ⟨rfl, rfl⟩) | (go_at_call 26; refine (isTime_any _ _).mono ?_; rintro e w_ ⟨rfl, rfl⟩))
    go_returns
    exact ⟨none, w.heap.size, 0, 0, rfl, Nat.le_refl _, by simp, own_none _ _ _ _ _, by (repeat' (first | (with_reducible exact Below.refl _ _) | (with_reducible assumption) | (with_reducible refine Below.alloc ?_ ?_ _) | (with_reducible refine Below.drew ?_) | (with_reducible refine belowDrewN ?_ _) | (with_reducible refine Below.setCell ?_ ?_ _) | (with_reducible refine Below.via (by with_reducible assumption) ?_ ?_) | (with_reducible exact Below.size (by with_reducible assumption)) | go_size | (with_reducible refine Nat.le_trans ?_ (Below.size (by with_reducible assumption))) | (with_reducible refine Nat.le_trans ?_ (sizeAlloc _ _)) | (with_reducible refine Nat.le_trans ?_ (sizeSet _ _ _)) | (with_reducible refine Nat.le_trans ?_ (sizeDrew _))))⟩
  case true =>
    cases q2 : tB i
    case false =>
      rw [q1, q2] at hr
      obtain ⟨rfl, rfl, rfl, rfl⟩ := quad hr
      clear hr
      go_enter Try.func9, Try.ntmps9
      go_wp2_with (first | (go_at_call 25; refine (between_any _ _ _ _).mono ?_; rintro e w_ ⟨rfl, rfl⟩) | (go_at_call 26; refine (isTime_any _ _).mono ?_; rintro e w_ ⟨rfl, rfl⟩))
      go_returns
      exact ⟨none, w.heap.size, 0, 0, rfl, Nat.le_refl _, by simp, own_none _ _ _ _ _, by (repeat' (first | (with_reducible exact Below.refl _ _) | (with_reducible assumption) | (with_reducible refine Below.alloc ?_ ?_ _) | (with_reducible refine Below.drew ?_) | (with_reducible refine belowDrewN ?_ _) | (with_reducible refine Below.setCell ?_ ?_ _) | (with_reducible refine Below.via (by with_reducible assumption) ?_ ?_) | (with_reducible exact Below.size (by with_reducible assumption)) | go_size | (with_reducible refine Nat.le_trans ?_ (Below.size (by with_reducible assumption))) | (with_reducible refine Nat.le_trans ?_ (sizeAlloc _ _)) | (with_reducible refine Nat.le_trans ?_ (sizeSet _ _ _)) | (with_reducible refine Nat.le_trans ?_ (sizeDrew _))))⟩
    case true =>
      cases q3 : tB d
      case false =>
        rw [q1, q2, q3] at hr
        obtain ⟨rfl, rfl, rfl, rfl⟩ := quad hr
        clear hr
        go_enter Try.func9, Try.ntmps9
        go_wp2_with (first | (go_at_call 25; refine (between_any _ _ _ _).mono ?_; rintro e w_ ⟨rfl, rfl⟩) | (go_at_call 26; refine (isTime_any _ _).mono ?_; rintro e w_ ⟨rfl, rfl⟩))
        go_returns
        exact ⟨none, w.heap.size, 0, 0, rfl, Nat.le_refl _, by simp, own_none _ _ _ _ _, by (repeat' (first | (with_reducible exact Below.refl _ _) | (with_reducible assumption) | (with_reducible refine Below.alloc ?_ ?_ _) | (with_reducible refine Below.drew ?_) | (with_reducible refine belowDrewN ?_ _) | (with_reducible refine Below.setCell ?_ ?_ _) | (with_reducible refine Below.via (by with_reducible assumption) ?_ ?_) | (with_reducible exact Below.size (by with_reducible assumption)) | go_size | (with_reducible refine Nat.le_trans ?_ (Below.size (by with_reducible assumption))) | (with_reducible refine Nat.le_trans ?_ (sizeAlloc _ _)) | (with_reducible refine Nat.le_trans ?_ (sizeSet _ _ _)) | (with_reducible refine Nat.le_trans ?_ (sizeDrew _))))⟩
      case true =>
        rw [q1, q2, q3] at hr
        obtain ⟨rfl, rfl, rfl, rfl⟩ := quad hr
        clear hr
        go_enter Try.func9, Try.ntmps9
        go_wp2_with (first | (go_at_call 25; refine (between_any _ _ _ _).mono ?_; rintro e w_ ⟨rfl, rfl⟩) | (go_at_call 26; refine (isTime_any _ _).mono ?_; rintro e w_ ⟨rfl, rfl⟩))
        go_returns
        exact ⟨_, w.heap.size + 1, 2, 2, rfl, by omega, by simp, own_two (Blk.new' (by simp)), by (repeat' (first | (with_reducible exact Below.refl _ _) | (with_reducible assumption) | (with_reducible refine Below.alloc ?_ ?_ _) | (with_reducible refine Below.drew ?_) | (with_reducible refine belowDrewN ?_ _) | (with_reducible refine Below.setCell ?_ ?_ _) | (with_reducible refine Below.via (by with_reducible assumption) ?_ ?_) | (with_reducible exact Below.size (by with_reducible assumption)) | go_size | (with_reducible refine Nat.le_trans ?_ (Below.size (by with_reducible assumption))) | (with_reducible refine Nat.le_trans ?_ (sizeAlloc _ _)) | (with_reducible refine Nat.le_trans ?_ (sizeSet _ _ _)) | (with_reducible refine Nat.le_trans ?_ (sizeDrew _))))⟩
set_option maxHeartbeats 1000000 in
theorem sNewClock_any (l i d : Int) (zs : List Int) (i' d' code : Int) (hr : ncR l i d = (zs, i', d', code)) (w : World) :
    Calls Try.prog 8 #[.int .i64 l, .int .i64 i, .int .i64 d] w (NcPost 2 zs i' d' code w) := by
  unfold ncR at hr
  cases q1 : inB l 1 36000000
  case false =>
    rw [q1] at hr
    obtain ⟨rfl, rfl, rfl, rfl⟩ := quad hr
    clear hr
    go_enter Try.func8, Try.ntmps8
    go_wp2_with (first | (go_at_call 23; refine (l00In_any _ _ _ _).mono ?_; rintro e w_ ⟨rfl, rfl⟩) | (go_at_call 24; refine (l23Time_any _ _).mono ?_; rintro e w_ ⟨rfl, rfl⟩))
    go_returns
    exact ⟨none, w.heap.size, 0, 0, rfl, Nat.le_refl _, by simp, own_none _ _ _ _ _, by (repeat' (first | (with_reducible exact Below.refl _ _) | (with_reducible assumption) | (with_reducible refine Below.alloc ?_ ?_ _) | (with_reducible refine Below.drew ?_) | (with_reducible refine belowDrewN ?_ _) | (with_reducible refine Below.setCell ?_ ?_ _) | (with_reducible refine Below.via (by with_reducible assumption) ?_ ?_) | (with_reducible exact Below.size (by with_reducible assumption)) | go_size | (with_reducible refine Nat.le_trans ?_ (Below.size (by with_reducible assumption))) | (with_reducible refine Nat.le_trans ?_ (sizeAlloc _ _)) | (with_reducible refine Nat.le_trans ?_ (sizeSet _ _ _)) | (with_reducible refine Nat.le_trans ?_ (sizeDrew _))))⟩
  case true =>
    cases q2 : tB i
    case false =>
      rw [q1, q2] at hr
      obtain ⟨rfl, rfl, rfl, rfl⟩ := quad hr
      clear hr
      go_enter Try.func8, Try.ntmps8
      go_wp2_with (first | (go_at_call 23; refine (l00In_any _ _ _ _).mono ?_; rintro e w_ ⟨rfl, rfl⟩) | (go_at_call 24; refine (l23Time_any _ _).mono ?_; rintro e w_ ⟨rfl, rfl⟩))
      go_returns
      exact ⟨none, w.heap.size, 0, 0, rfl, Nat.le_refl _, by simp, own_none _ _ _ _ _, by (repeat' (first | (with_reducible exact Below.refl _ _) | (with_reducible assumption) | (with_reducible refine Below.alloc ?_ ?_ _) | (with_reducible refine Below.drew ?_) | (with_reducible refine belowDrewN ?_ _) | (with_reducible refine Below.setCell ?_ ?_ _) | (with_reducible refine Below.via (by with_reducible assumption) ?_ ?_) | (with_reducible exact Below.size (by with_reducible assumption)) | go_size | (with_reducible refine Nat.le_trans ?_ (Below.size (by with_reducible assumption))) | (with_reducible refine Nat.le_trans ?_ (sizeAlloc _ _)) | (with_reducible refine Nat.le_trans ?_ (sizeSet _ _ _)) | (with_reducible refine Nat.le_trans ?_ (sizeDrew _))))⟩
    case true =>
      cases q3 : tB d
      case false =>
        rw [q1, q2, q3] at hr
        obtain ⟨rfl, rfl, rfl, rfl⟩ := quad hr
        clear hr
        go_enter Try.func8, Try.ntmps8
        go_wp2_with (first | (go_at_call 23; refine (l00In_any _ _ _ _).mono ?_; rintro e w_ ⟨rfl, rfl⟩) | (go_at_call 24; refine (l23Time_any _ _).mono ?_; rintro e w_ ⟨rfl, rfl⟩))
        go_returns
        exact ⟨none, w.heap.size, 0, 0, rfl, Nat.le_refl _, by simp, own_none _ _ _ _ _, by (repeat' (first | (with_reducible exact Below.refl _ _) | (with_reducible assumption) | (with_reducible refine Below.alloc ?_ ?_ _) | (with_reducible refine Below.drew ?_) | (with_reducible refine belowDrewN ?_ _) | (with_reducible refine Below.setCell ?_ ?_ _) | (with_reducible refine Below.via (by with_reducible assumption) ?_ ?_) | (with_reducible exact Below.size (by with_reducible assumption)) | go_size | (with_reducible refine Nat.le_trans ?_ (Below.size (by with_reducible assumption))) | (with_reducible refine Nat.le_trans ?_ (sizeAlloc _ _)) | (with_reducible refine Nat.le_trans ?_ (sizeSet _ _ _)) | (with_reducible refine Nat.le_trans ?_ (sizeDrew _))))⟩
      case true =>
        rw [q1, q2, q3] at hr
        obtain ⟨rfl, rfl, rfl, rfl⟩ := quad hr
        clear hr
        go_enter Try.func8, Try.ntmps8
        go_wp2_with (first | (go_at_call 23; refine (l00In_any _ _ _ _).mono ?_; rintro e w_ ⟨rfl, rfl⟩) | (go_at_call 24; refine (l23Time_any _ _).mono ?_; rintro e w_ ⟨rfl, rfl⟩))
        go_returns
        exact ⟨_, w.heap.size + 1, 2, 2, rfl, by omega, by simp, own_two (Blk.new' (by simp)), by (repeat' (first | (with_reducible exact Below.refl _ _) | (with_reducible assumption) | (with_reducible refine Below.alloc ?_ ?_ _) | (with_reducible refine Below.drew ?_) | (with_reducible refine belowDrewN ?_ _) | (with_reducible refine Below.setCell ?_ ?_ _) | (with_reducible refine Below.via (by with_reducible assumption) ?_ ?_) | (with_reducible exact Below.size (by with_reducible assumption)) | go_size | (with_reducible refine Nat.le_trans ?_ (Below.size (by with_reducible assumption))) | (with_reducible refine Nat.le_trans ?_ (sizeAlloc _ _)) | (with_reducible refine Nat.le_trans ?_ (sizeSet _ _ _)) | (with_reducible refine Nat.le_trans ?_ (sizeDrew _))))⟩
theorem grown_boxed {w w' : World} {o : Obj} {r : Option Nat} (h : (w.alloc o).grownBy w' r) : w.grownBy w' r := ⟨h.os, h.tape, h.output, Nat.le_trans (sizeAlloc _ _) h.size, fun k hk hne => (h.block k (by simp; omega) hne).trans (Below.heap_alloc w o k hk)⟩
theorem markClock_any (A : Option Addr) (n c g : Nat) (zs : List Int) (inc del pl si : Int) (ru fa : Bool) (k0 : Int) (w : World) (ho : Own w g 2 1 A n zs) (hn : n ≤ 1099511627776) (h0 : 0 ≤ k0) (h1 : k0 ≤ 1099511627776) :
    Calls Try.prog 11 #[.agg #[.slice A n c, .int .i64 inc, .int .i64 del, .int .i64 pl, .int .i64 si, .bool ru, .bool fa], .int .i64 k0] w fun e w' => e = .returned (.int .i64 (k0 + (n : Nat))) ∧ Own w' g 2 1 A n (marks k0 n) ∧ w.grownBy w' (some g) := by
  go_enter Try.func11, Try.ntmps11
  go_wp2_with fail
  refine (markInt64S_any A n c g zs k0 _ (ho.later (boxed_ _ _)) hn h0 h1).mono ?_
  rintro e w1 ⟨rfl, o1, hg1⟩
  go_wp2_with fail
  go_ret
  exact ⟨rfl, o1, grown_boxed hg1⟩
theorem heldClock_any (A : Option Addr) (n c : Nat) (inc del pl si : Int) (ru fa : Bool) (k0 : Int) (w : World) (hs : Sl w w.heap.size 1 A n ((marks k0 n).map (Value.int .i64))) (hn : n ≤ 1099511627776) (h0 : 0 ≤ k0) (h1 : k0 ≤ 1099511627776) :
    Calls Try.prog 12 #[.agg #[.slice A n c, .int .i64 inc, .int .i64 del, .int .i64 pl, .int .i64 si, .bool ru, .bool fa], .int .i64 k0] w fun e w' => e = .returned (.int .i64 (k0 + (n : Nat))) ∧ Below w.heap.size w w' := by
  go_enter Try.func12, Try.ntmps12
  go_wp2_with fail
  refine (heldInt64S_any A n c k0 _ (hs.boxed _) hn h0 h1).mono ?_
  rintro e w1 ⟨rfl, rfl⟩
  go_wp2_with fail
  go_ret
  exact ⟨rfl, by (repeat' (first | (with_reducible exact Below.refl _ _) | (with_reducible assumption) | (with_reducible refine Below.alloc ?_ ?_ _) | (with_reducible refine Below.drew ?_) | (with_reducible refine belowDrewN ?_ _) | (with_reducible refine Below.setCell ?_ ?_ _) | (with_reducible refine Below.via (by with_reducible assumption) ?_ ?_) | (with_reducible exact Below.size (by with_reducible assumption)) | go_size | (with_reducible refine Nat.le_trans ?_ (Below.size (by with_reducible assumption))) | (with_reducible refine Nat.le_trans ?_ (sizeAlloc _ _)) | (with_reducible refine Nat.le_trans ?_ (sizeSet _ _ _)) | (with_reducible refine Nat.le_trans ?_ (sizeDrew _))))⟩
end Go.Proofs.Ytbnccmdbplmmkaa
