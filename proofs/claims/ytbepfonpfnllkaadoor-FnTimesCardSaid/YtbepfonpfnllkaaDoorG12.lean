/- Rounds, the other player of a round, byes: both functions. Conditions: 2 to 12 players. -/
import Derived.Test.YtbepfonpfnllkaaDoorG11
import Derived.Deep.DeepCutAuto
import Derived.Test.YtbepfonpfnllkaaDoorG01
import Derived.Test.YtbepfonpfnllkaaDoorG00
import Derived.BigQuiet
import Derived.Deep.QuietTactic
/- SameClock: the law. No conditions. -/
namespace Go.Proofs.YtbepfonpfnllkaaDoor
set_option linter.unusedSimpArgs false
set_option linter.unusedVariables false
open Go.RowKit

theorem Blk.drew_ {w w' : World} {g : Nat} {t : TypeId} {cs : Array Value} (h : Blk w g t cs) (hb : Below w.drew.heap.size w.drew w') : Blk w' g t cs := h.later (Below.undrew hb)
theorem Sl.undrew_ {w w' : World} {size n : Nat} {A : Option Addr} {xs : List Value} (h : Sl w w.heap.size size A n xs) (hb : Below w.drew.heap.size w.drew w') : Sl w' w'.heap.size size A n xs := h.later (Below.undrew hb)
theorem boxedC_ (w : World) (o : Obj) : Below w.heap.size w (w.alloc o) := Below.alloc (Below.refl _ _) (Nat.le_refl _) o
theorem Sl.boxedC {w : World} {size n : Nat} {A : Option Addr} {xs : List Value} (h : Sl w w.heap.size size A n xs) (o : Obj) : Sl (w.alloc o) (w.alloc o).heap.size size A n xs := h.later (boxedC_ w o)
theorem Sl.far {w w' : World} {size n : Nat} {A : Option Addr} {xs : List Value} (h : Sl w w.heap.size size A n xs) (o : Obj) (hb : Below (w.alloc o).heap.size (w.alloc o) w') : Sl w' w'.heap.size size A n xs := (h.boxedC o).later hb
theorem Blk.far {w w' : World} {g : Nat} {t : TypeId} {cs : Array Value} (h : Blk w g t cs) (o : Obj) (hb : Below (w.alloc o).heap.size (w.alloc o) w') : Blk w' g t cs := (h.later (boxedC_ w o)).later hb
end Go.Proofs.YtbepfonpfnllkaaDoor
/- NewClock: both functions, and the law. No conditions. -/
namespace Go.Proofs.YtbepfonpfnllkaaDoor
set_option linter.unusedSimpArgs false
set_option linter.unusedVariables false
open Go.RowKit

/-- What NewClock returns: the times, increment, delay, the code. -/
def ncR (l i d : Int) : List Int × Int × Int × Int := if inB l 1 36000000 && tB i && tB d then ([l, l], i, d, 0) else ([], 0, 0, 2)
theorem quad {x x' : List Int} {y z u y' z' u' : Int} (h : (x', y', z', u') = (x, y, z, u)) : x' = x ∧ y' = y ∧ z' = z ∧ u' = u := by
  injection h with h1 h2
  injection h2 with h2 h3
  injection h3 with h3 h4
  exact ⟨h1, h2, h3, h4⟩
def NcPost (t : TypeId) (zs : List Int) (i d code : Int) (w : World) (e : Ending) (w' : World) : Prop :=
  ∃ (A : Option Addr) (g q cap : Nat), e = .returned (.tuple #[.agg #[.slice A q cap, .int .i64 i, .int .i64 d, .int .i64 0, .int .i64 0, .bool false, .bool false], .int .i64 code]) ∧ w.heap.size ≤ g ∧ g < w'.heap.size ∧ Own w' g t 1 A q zs ∧ Below w.heap.size w w'
theorem own_none (w : World) (g : Nat) (t : TypeId) (m : Nat) (A : Option Addr) : Own w g t m A 0 [] := ⟨by simp, fun h => absurd h (by omega)⟩
theorem own_two {w : World} {g : Nat} {t : TypeId} {x y : Int} (h : Blk w g t #[.int .i64 x, .int .i64 y]) : Own w g t 1 (some ⟨g, 0, none⟩) 2 [x, y] := ⟨rfl, fun _ => ⟨rfl, [], by simpa using h⟩⟩
set_option maxHeartbeats 1000000 in
theorem NewClock_any (l i d : Int) (zs : List Int) (i' d' code : Int) (hr : ncR l i d = (zs, i', d', code)) (w : World) :
    Calls Tryd.prog 11 #[.int .i64 l, .int .i64 i, .int .i64 d] w (NcPost 2 zs i' d' code w) := by
  unfold ncR at hr
  cases q1 : inB l 1 36000000
  case false =>
    rw [q1] at hr
    obtain ⟨rfl, rfl, rfl, rfl⟩ := quad hr
    clear hr
    go_enter Tryd.func11, Tryd.ntmps11
    go_wp2_with (first | (go_at_call 31; refine (between_any _ _ _ _).mono ?_; rintro e w_ ⟨rfl, rfl⟩) | (go_at_call 22; refine (isTime_any _ _).mono ?_; rintro e w_ ⟨rfl, rfl⟩))
    go_returns
    exact ⟨none, w.heap.size, 0, 0, rfl, Nat.le_refl _, by simp, own_none _ _ _ _ _, by (repeat' (first | (with_reducible exact Below.refl _ _) | (with_reducible assumption) | (with_reducible refine Below.alloc ?_ ?_ _) | (with_reducible refine Below.drew ?_) | (with_reducible refine belowDrewN ?_ _) | (with_reducible refine Below.setCell ?_ ?_ _) | (with_reducible refine Below.via (by with_reducible assumption) ?_ ?_) | (with_reducible refine Below.viaD (by with_reducible assumption) ?_ ?_) | (with_reducible exact Below.size (by with_reducible assumption)) | go_size | (with_reducible refine Nat.le_trans ?_ (Below.size (by with_reducible assumption))) | (with_reducible refine Nat.le_trans ?_ (sizeAlloc _ _)) | (with_reducible refine Nat.le_trans ?_ (sizeSet _ _ _)) | (with_reducible refine Nat.le_trans ?_ (sizeDrew _))))⟩
  case true =>
    cases q2 : tB i
    case false =>
      rw [q1, q2] at hr
      obtain ⟨rfl, rfl, rfl, rfl⟩ := quad hr
      clear hr
      go_enter Tryd.func11, Tryd.ntmps11
      go_wp2_with (first | (go_at_call 31; refine (between_any _ _ _ _).mono ?_; rintro e w_ ⟨rfl, rfl⟩) | (go_at_call 22; refine (isTime_any _ _).mono ?_; rintro e w_ ⟨rfl, rfl⟩))
      go_returns
      exact ⟨none, w.heap.size, 0, 0, rfl, Nat.le_refl _, by simp, own_none _ _ _ _ _, by (repeat' (first | (with_reducible exact Below.refl _ _) | (with_reducible assumption) | (with_reducible refine Below.alloc ?_ ?_ _) | (with_reducible refine Below.drew ?_) | (with_reducible refine belowDrewN ?_ _) | (with_reducible refine Below.setCell ?_ ?_ _) | (with_reducible refine Below.via (by with_reducible assumption) ?_ ?_) | (with_reducible refine Below.viaD (by with_reducible assumption) ?_ ?_) | (with_reducible exact Below.size (by with_reducible assumption)) | go_size | (with_reducible refine Nat.le_trans ?_ (Below.size (by with_reducible assumption))) | (with_reducible refine Nat.le_trans ?_ (sizeAlloc _ _)) | (with_reducible refine Nat.le_trans ?_ (sizeSet _ _ _)) | (with_reducible refine Nat.le_trans ?_ (sizeDrew _))))⟩
    case true =>
      cases q3 : tB d
      case false =>
        rw [q1, q2, q3] at hr
        obtain ⟨rfl, rfl, rfl, rfl⟩ := quad hr
        clear hr
        go_enter Tryd.func11, Tryd.ntmps11
        go_wp2_with (first | (go_at_call 31; refine (between_any _ _ _ _).mono ?_; rintro e w_ ⟨rfl, rfl⟩) | (go_at_call 22; refine (isTime_any _ _).mono ?_; rintro e w_ ⟨rfl, rfl⟩))
        go_returns
        exact ⟨none, w.heap.size, 0, 0, rfl, Nat.le_refl _, by simp, own_none _ _ _ _ _, by (repeat' (first | (with_reducible exact Below.refl _ _) | (with_reducible assumption) | (with_reducible refine Below.alloc ?_ ?_ _) | (with_reducible refine Below.drew ?_) | (with_reducible refine belowDrewN ?_ _) | (with_reducible refine Below.setCell ?_ ?_ _) | (with_reducible refine Below.via (by with_reducible assumption) ?_ ?_) | (with_reducible refine Below.viaD (by with_reducible assumption) ?_ ?_) | (with_reducible exact Below.size (by with_reducible assumption)) | go_size | (with_reducible refine Nat.le_trans ?_ (Below.size (by with_reducible assumption))) | (with_reducible refine Nat.le_trans ?_ (sizeAlloc _ _)) | (with_reducible refine Nat.le_trans ?_ (sizeSet _ _ _)) | (with_reducible refine Nat.le_trans ?_ (sizeDrew _))))⟩
      case true =>
        rw [q1, q2, q3] at hr
        obtain ⟨rfl, rfl, rfl, rfl⟩ := quad hr
        clear hr
        go_enter Tryd.func11, Tryd.ntmps11
        go_wp2_with (first | (go_at_call 31; refine (between_any _ _ _ _).mono ?_; rintro e w_ ⟨rfl, rfl⟩) | (go_at_call 22; refine (isTime_any _ _).mono ?_; rintro e w_ ⟨rfl, rfl⟩))
        go_returns
        exact ⟨_, w.heap.size + 1, 2, 2, rfl, by omega, by simp, own_two (Blk.new' (by simp)), by (repeat' (first | (with_reducible exact Below.refl _ _) | (with_reducible assumption) | (with_reducible refine Below.alloc ?_ ?_ _) | (with_reducible refine Below.drew ?_) | (with_reducible refine belowDrewN ?_ _) | (with_reducible refine Below.setCell ?_ ?_ _) | (with_reducible refine Below.via (by with_reducible assumption) ?_ ?_) | (with_reducible refine Below.viaD (by with_reducible assumption) ?_ ?_) | (with_reducible exact Below.size (by with_reducible assumption)) | go_size | (with_reducible refine Nat.le_trans ?_ (Below.size (by with_reducible assumption))) | (with_reducible refine Nat.le_trans ?_ (sizeAlloc _ _)) | (with_reducible refine Nat.le_trans ?_ (sizeSet _ _ _)) | (with_reducible refine Nat.le_trans ?_ (sizeDrew _))))⟩
set_option maxHeartbeats 1000000 in
theorem sNewClock_any (l i d : Int) (zs : List Int) (i' d' code : Int) (hr : ncR l i d = (zs, i', d', code)) (w : World) :
    Calls Tryd.prog 12 #[.int .i64 l, .int .i64 i, .int .i64 d] w (NcPost 2 zs i' d' code w) := by
  unfold ncR at hr
  cases q1 : inB l 1 36000000
  case false =>
    rw [q1] at hr
    obtain ⟨rfl, rfl, rfl, rfl⟩ := quad hr
    clear hr
    go_enter Tryd.func12, Tryd.ntmps12
    go_wp2_with (first | (go_at_call 32; refine (l00In_any _ _ _ _).mono ?_; rintro e w_ ⟨rfl, rfl⟩) | (go_at_call 30; refine (l23Time_any _ _).mono ?_; rintro e w_ ⟨rfl, rfl⟩))
    go_returns
    exact ⟨none, w.heap.size, 0, 0, rfl, Nat.le_refl _, by simp, own_none _ _ _ _ _, by (repeat' (first | (with_reducible exact Below.refl _ _) | (with_reducible assumption) | (with_reducible refine Below.alloc ?_ ?_ _) | (with_reducible refine Below.drew ?_) | (with_reducible refine belowDrewN ?_ _) | (with_reducible refine Below.setCell ?_ ?_ _) | (with_reducible refine Below.via (by with_reducible assumption) ?_ ?_) | (with_reducible refine Below.viaD (by with_reducible assumption) ?_ ?_) | (with_reducible exact Below.size (by with_reducible assumption)) | go_size | (with_reducible refine Nat.le_trans ?_ (Below.size (by with_reducible assumption))) | (with_reducible refine Nat.le_trans ?_ (sizeAlloc _ _)) | (with_reducible refine Nat.le_trans ?_ (sizeSet _ _ _)) | (with_reducible refine Nat.le_trans ?_ (sizeDrew _))))⟩
  case true =>
    cases q2 : tB i
    case false =>
      rw [q1, q2] at hr
      obtain ⟨rfl, rfl, rfl, rfl⟩ := quad hr
      clear hr
      go_enter Tryd.func12, Tryd.ntmps12
      go_wp2_with (first | (go_at_call 32; refine (l00In_any _ _ _ _).mono ?_; rintro e w_ ⟨rfl, rfl⟩) | (go_at_call 30; refine (l23Time_any _ _).mono ?_; rintro e w_ ⟨rfl, rfl⟩))
      go_returns
      exact ⟨none, w.heap.size, 0, 0, rfl, Nat.le_refl _, by simp, own_none _ _ _ _ _, by (repeat' (first | (with_reducible exact Below.refl _ _) | (with_reducible assumption) | (with_reducible refine Below.alloc ?_ ?_ _) | (with_reducible refine Below.drew ?_) | (with_reducible refine belowDrewN ?_ _) | (with_reducible refine Below.setCell ?_ ?_ _) | (with_reducible refine Below.via (by with_reducible assumption) ?_ ?_) | (with_reducible refine Below.viaD (by with_reducible assumption) ?_ ?_) | (with_reducible exact Below.size (by with_reducible assumption)) | go_size | (with_reducible refine Nat.le_trans ?_ (Below.size (by with_reducible assumption))) | (with_reducible refine Nat.le_trans ?_ (sizeAlloc _ _)) | (with_reducible refine Nat.le_trans ?_ (sizeSet _ _ _)) | (with_reducible refine Nat.le_trans ?_ (sizeDrew _))))⟩
    case true =>
      cases q3 : tB d
      case false =>
        rw [q1, q2, q3] at hr
        obtain ⟨rfl, rfl, rfl, rfl⟩ := quad hr
        clear hr
        go_enter Tryd.func12, Tryd.ntmps12
        go_wp2_with (first | (go_at_call 32; refine (l00In_any _ _ _ _).mono ?_; rintro e w_ ⟨rfl, rfl⟩) | (go_at_call 30; refine (l23Time_any _ _).mono ?_; rintro e w_ ⟨rfl, rfl⟩))
        go_returns
        exact ⟨none, w.heap.size, 0, 0, rfl, Nat.le_refl _, by simp, own_none _ _ _ _ _, by (repeat' (first | (with_reducible exact Below.refl _ _) | (with_reducible assumption) | (with_reducible refine Below.alloc ?_ ?_ _) | (with_reducible refine Below.drew ?_) | (with_reducible refine belowDrewN ?_ _) | (with_reducible refine Below.setCell ?_ ?_ _) | (with_reducible refine Below.via (by with_reducible assumption) ?_ ?_) | (with_reducible refine Below.viaD (by with_reducible assumption) ?_ ?_) | (with_reducible exact Below.size (by with_reducible assumption)) | go_size | (with_reducible refine Nat.le_trans ?_ (Below.size (by with_reducible assumption))) | (with_reducible refine Nat.le_trans ?_ (sizeAlloc _ _)) | (with_reducible refine Nat.le_trans ?_ (sizeSet _ _ _)) | (with_reducible refine Nat.le_trans ?_ (sizeDrew _))))⟩
      case true =>
        rw [q1, q2, q3] at hr
        obtain ⟨rfl, rfl, rfl, rfl⟩ := quad hr
        clear hr
        go_enter Tryd.func12, Tryd.ntmps12
        go_wp2_with (first | (go_at_call 32; refine (l00In_any _ _ _ _).mono ?_; rintro e w_ ⟨rfl, rfl⟩) | (go_at_call 30; refine (l23Time_any _ _).mono ?_; rintro e w_ ⟨rfl, rfl⟩))
        go_returns
        exact ⟨_, w.heap.size + 1, 2, 2, rfl, by omega, by simp, own_two (Blk.new' (by simp)), by (repeat' (first | (with_reducible exact Below.refl _ _) | (with_reducible assumption) | (with_reducible refine Below.alloc ?_ ?_ _) | (with_reducible refine Below.drew ?_) | (with_reducible refine belowDrewN ?_ _) | (with_reducible refine Below.setCell ?_ ?_ _) | (with_reducible refine Below.via (by with_reducible assumption) ?_ ?_) | (with_reducible refine Below.viaD (by with_reducible assumption) ?_ ?_) | (with_reducible exact Below.size (by with_reducible assumption)) | go_size | (with_reducible refine Nat.le_trans ?_ (Below.size (by with_reducible assumption))) | (with_reducible refine Nat.le_trans ?_ (sizeAlloc _ _)) | (with_reducible refine Nat.le_trans ?_ (sizeSet _ _ _)) | (with_reducible refine Nat.le_trans ?_ (sizeDrew _))))⟩
theorem grown_boxed {w w' : World} {o : Obj} {r : Option Nat} (h : (w.alloc o).grownBy w' r) : w.grownBy w' r := ⟨h.os, h.tape, h.output, Nat.le_trans (sizeAlloc _ _) h.size, fun k hk hne => (h.block k (by simp; omega) hne).trans (Below.heap_alloc w o k hk)⟩
end Go.Proofs.YtbepfonpfnllkaaDoor
/- Rounds, the other player of a round, byes: both functions. Conditions: 2 to 12 players. -/
namespace Go.Proofs.YtbepfonpfnllkaaDoor
set_option linter.unusedSimpArgs false
set_option linter.unusedVariables false
open Go.RowKit

def rdN (n : Nat) : Nat := if n % 2 = 0 then n - 1 else n
theorem rdN_bd {n : Nat} (h : 2 ≤ n) : 1 ≤ rdN n ∧ rdN n ≤ n ∧ n ≤ rdN n + 1 := by unfold rdN; split <;> omega
theorem rdN_int {n : Nat} (h : 2 ≤ n) : (n : Int) - 1 + (n : Int) % 2 = (rdN n : Int) := by unfold rdN; split <;> omega
/-- The first k below m with p k. -/
def firstN (m : Nat) (p : Nat → Bool) : Option Nat := (List.range m).find? p
theorem firstN_some {m k : Nat} {p : Nat → Bool} (hk : k < m) (h : p k = true) (hb : ∀ j, j < k → p j = false) : firstN m p = some k := by
  unfold firstN
  rw [List.find?_range_eq_some]
  exact ⟨h, by simpa using hk, fun j hj => by simp [hb j hj]⟩
theorem firstN_none {m : Nat} {p : Nat → Bool} (hb : ∀ j, j < m → p j = false) : firstN m p = none := by
  unfold firstN
  rw [List.find?_range_eq_none]
  intro j hj
  simp [hb j hj]
def othN (n r p : Nat) : Nat :=
  if p = rdN n then (firstN (rdN n) fun k => 2 * k % rdN n == r).getD 0
  else if (r + rdN n - p) % rdN n = p ∧ n % 2 = 0 then rdN n else (r + rdN n - p) % rdN n
theorem two_mod (k m : Nat) : 2 * (k : Int) % (m : Int) = ((2 * k % m : Nat) : Int) := by rw [Int.natCast_emod]; rfl
theorem oth_hit : ∀ n, n < 13 → ∀ r, r < rdN n → rdN n + 1 = n → ∃ k, k < rdN n ∧ 2 * k % rdN n = r := by decide +kernel
/-- Rounds: the number, the code. -/
def rcC (n : Int) : Int := if inB n 2 12 then (rdN n.toNat : Int) else 0
def rcE (n : Int) : Int := if inB n 2 12 then 0 else 2
theorem nat_of {n : Int} (h : inB n 2 12 = true) : ∃ k : Nat, n = k ∧ 2 ≤ k ∧ k ≤ 12 := by
  obtain ⟨h1, h2⟩ := inB_of h
  exact ⟨n.toNat, by omega, by omega, by omega⟩
/-- A number of players and a round of theirs. -/
def okR (n r : Int) : Bool := inB n 2 12 && inB r 0 ((rdN n.toNat : Int) - 1)
theorem okR_of {n r : Int} (h : okR n r = true) : ∃ k j : Nat, n = k ∧ r = j ∧ 2 ≤ k ∧ k ≤ 12 ∧ j < rdN k := by
  rw [okR, Bool.and_eq_true] at h
  obtain ⟨k, rfl, k1, k2⟩ := nat_of h.1
  obtain ⟨h1, h2⟩ := inB_of h.2
  simp only [Int.toNat_natCast] at h2
  exact ⟨k, r.toNat, rfl, by omega, k1, k2, by omega⟩
def codeR (n r : Int) : Int := if okR n r then 0 else 2
theorem codeR_t {n r : Int} (h : okR n r = true) : codeR n r = 0 := by rw [codeR, if_pos h]
theorem codeR_f {n r : Int} (h : okR n r = false) : codeR n r = 2 := by rw [codeR, h]; rfl
end Go.Proofs.YtbepfonpfnllkaaDoor
