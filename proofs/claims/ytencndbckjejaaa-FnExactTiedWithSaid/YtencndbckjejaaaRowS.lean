/- The laws' own copies and comparisons of lists of Row. Conditions: lengths below 2^20. -/
import Derived.Test.YtencndbckjejaaaApp
namespace Go.Proofs.Ytencndbckjejaaa
set_option linter.unusedSimpArgs false
set_option linter.unusedVariables false
open Go.RowKit

/-- Each element has fields of its kinds. -/
def TypRow (vs : List Value) (n : Nat) : Prop := ∀ k, k < n → ∃ (a0 : Int) (a1 : Int) (a2 : Int) (a3 : Int) (a4 : Int) (a5 : Int), vs[k * 6]? = some (.int .i64 a0) ∧ vs[k * 6 + 1]? = some (.int .i64 a1) ∧ vs[k * 6 + 2]? = some (.int .i64 a2) ∧ vs[k * 6 + 3]? = some (.int .i64 a3) ∧ vs[k * 6 + 4]? = some (.int .i64 a4) ∧ vs[k * 6 + 5]? = some (.int .i64 a5)
theorem eqRow_same (a0 : Int) (a1 : Int) (a2 : Int) (a3 : Int) (a4 : Int) (a5 : Int) (w : World) : Calls Try.prog 49 #[.agg #[.int .i64 a0, .int .i64 a1, .int .i64 a2, .int .i64 a3, .int .i64 a4, .int .i64 a5], .agg #[.int .i64 a0, .int .i64 a1, .int .i64 a2, .int .i64 a3, .int .i64 a4, .int .i64 a5]] w fun e w' => e = .returned (.bool true) ∧ Below w.heap.size w w' := by
  go_enter Try.func49, Try.ntmps49
  go_wp2
  go_ret
  exact ⟨rfl, by (repeat' (first | (with_reducible exact Below.refl _ _) | (with_reducible assumption) | (with_reducible refine Below.alloc ?_ ?_ _) | (with_reducible refine Below.drew ?_) | (with_reducible refine belowDrewN ?_ _) | (with_reducible refine Below.setCell ?_ ?_ _) | (with_reducible refine Below.via (by with_reducible assumption) ?_ ?_) | (with_reducible refine Below.viaD (by with_reducible assumption) ?_ ?_) | (with_reducible exact Below.size (by with_reducible assumption)) | go_size | (with_reducible refine Nat.le_trans ?_ (Below.size (by with_reducible assumption))) | (with_reducible refine Nat.le_trans ?_ (sizeAlloc _ _)) | (with_reducible refine Nat.le_trans ?_ (sizeSet _ _ _)) | (with_reducible refine Nat.le_trans ?_ (sizeDrew _))))⟩
set_option maxHeartbeats 1000000 in
theorem eqRowS_same (A A' : Option Addr) (n c c' : Nat) (vs : List Value) (w : World) (hs : Sl w w.heap.size 6 A n vs) (hs' : Sl w w.heap.size 6 A' n vs) (ht : TypRow vs n) (hn : n ≤ 9223372036854775807) :
    Calls Try.prog 28 #[.slice A n c, .slice A' n c'] w fun e w' => e = .returned (.bool true) ∧ Below w.heap.size w w' := by
  have HT := Lib.hid ht; clear ht
  go_enter Try.func28, Try.ntmps28
  go_wp2
  go_loopw [5] (fun i wr => ∃ k : Nat, k ≤ n ∧ i = .int .i64 k ∧ Below w.heap.size w wr) (fun i _ => n - (intOf i).toNat)
  case atStart => exact ⟨0, Nat.zero_le _, rfl, Below.refl _ _⟩
  case round =>
    obtain ⟨k, hk, rfl, hbl⟩ := hrel
    by_cases hlt : k < n
    · obtain ⟨b, off, rfl, hb, hl, hc⟩ := (hs.below hbl).cellV hlt
      obtain ⟨b', off', rfl, hb', hl', hc'⟩ := (hs'.below hbl).cellV hlt
      obtain ⟨a0, a1, a2, a3, a4, a5, v0, v1, v2, v3, v4, v5⟩ := HT.out k hlt
      have hx0 := hc 0 _ (by omega) (by simpa using v0)
      have hy0 := hc' 0 _ (by omega) (by simpa using v0)
      have hx1 := hc 1 _ (by omega) (by simpa using v1)
      have hy1 := hc' 1 _ (by omega) (by simpa using v1)
      have hx2 := hc 2 _ (by omega) (by simpa using v2)
      have hy2 := hc' 2 _ (by omega) (by simpa using v2)
      have hx3 := hc 3 _ (by omega) (by simpa using v3)
      have hy3 := hc' 3 _ (by omega) (by simpa using v3)
      have hx4 := hc 4 _ (by omega) (by simpa using v4)
      have hy4 := hc' 4 _ (by omega) (by simpa using v4)
      have hx5 := hc 5 _ (by omega) (by simpa using v5)
      have hy5 := hc' 5 _ (by omega) (by simpa using v5)
      rw [Nat.add_zero] at hx0 hy0
      rw [← Nat.add_assoc] at hx1 hy1
      rw [← Nat.add_assoc] at hx2 hy2
      rw [← Nat.add_assoc] at hx3 hy3
      rw [← Nat.add_assoc] at hx4 hy4
      rw [← Nat.add_assoc] at hx5 hy5
      clear hc hl hc' hl' v0 v1 v2 v3 v4 v5
      go_wp2_with fail
      go_region_with ((go_at_call 49; refine (eqRow_same _ _ _ _ _ _ _).mono ?_; rintro e w1 ⟨rfl, hb1⟩))
      all_goals
        go_wp2_with fail
        go_roundw
        case rel => exact ⟨k + 1, by omega, by go_num, by (repeat' (first | (with_reducible exact Below.refl _ _) | (with_reducible assumption) | (with_reducible refine Below.alloc ?_ ?_ _) | (with_reducible refine Below.drew ?_) | (with_reducible refine belowDrewN ?_ _) | (with_reducible refine Below.setCell ?_ ?_ _) | (with_reducible refine Below.via (by with_reducible assumption) ?_ ?_) | (with_reducible refine Below.viaD (by with_reducible assumption) ?_ ?_) | (with_reducible exact Below.size (by with_reducible assumption)) | go_size | (with_reducible refine Nat.le_trans ?_ (Below.size (by with_reducible assumption))) | (with_reducible refine Nat.le_trans ?_ (sizeAlloc _ _)) | (with_reducible refine Nat.le_trans ?_ (sizeSet _ _ _)) | (with_reducible refine Nat.le_trans ?_ (sizeDrew _))))⟩
        case measure => first | (simp [intOf]; done) | (simp [intOf]; omega)
    · obtain rfl : k = n := by omega
      go_wp2
      go_ret
      exact ⟨rfl, by (repeat' (first | (with_reducible exact Below.refl _ _) | (with_reducible assumption) | (with_reducible refine Below.alloc ?_ ?_ _) | (with_reducible refine Below.drew ?_) | (with_reducible refine belowDrewN ?_ _) | (with_reducible refine Below.setCell ?_ ?_ _) | (with_reducible refine Below.via (by with_reducible assumption) ?_ ?_) | (with_reducible refine Below.viaD (by with_reducible assumption) ?_ ?_) | (with_reducible exact Below.size (by with_reducible assumption)) | go_size | (with_reducible refine Nat.le_trans ?_ (Below.size (by with_reducible assumption))) | (with_reducible refine Nat.le_trans ?_ (sizeAlloc _ _)) | (with_reducible refine Nat.le_trans ?_ (sizeSet _ _ _)) | (with_reducible refine Nat.le_trans ?_ (sizeDrew _))))⟩
end Go.Proofs.Ytencndbckjejaaa
