/- FlawName: both functions, and the law. No conditions. -/
import Derived.Test.YtggnajoocfmgpaaDoorNum
namespace Go.Proofs.YtggnajoocfmgpaaDoor
set_option linter.unusedSimpArgs false
set_option linter.unusedVariables false
open Go.RowKit

/-- The name of a kind of flaws. -/
def flawS (k : Int) : ByteArray :=
  if k = 0 then ⟨#[110, 111, 110, 101]⟩ else if k = 1 then ⟨#[101, 110, 100]⟩ else if k = 2 then ⟨#[98, 101, 116, 116, 101, 114]⟩ else if k = 3 then ⟨#[119, 111, 114, 115, 101]⟩ else if k = 4 then ⟨#[114, 97, 110, 107]⟩ else ⟨#[]⟩
theorem flaw_out {k : Int} (h : ¬ (0 ≤ k ∧ k ≤ 4)) : flawS k = ⟨#[]⟩ := by
  unfold flawS
  rw [if_neg (by omega), if_neg (by omega), if_neg (by omega), if_neg (by omega), if_neg (by omega)]
theorem in_of {k : Int} (h : inB k 0 4 = true) : k = 0 ∨ k = 1 ∨ k = 2 ∨ k = 3 ∨ k = 4 := by have := inB_of h; omega
theorem out_of {k : Int} (h : inB k 0 4 = false) : ¬ (0 ≤ k ∧ k ≤ 4) := by simpa [inB] using h
theorem ret_string {a b : ByteArray} (h : a = b) : Ending.returned (.string a) = .returned (.string b) := by rw [h]
theorem FlawName_any (k : Int) (s : ByteArray) (h : flawS k = s) (w : World) : Calls Tryd.prog 43 #[.int .i64 k] w fun e w' => e = .returned (.string s) ∧ Below w.heap.size w w' := by
  cases q : inB k 0 4
  case false =>
    have HE : Hid (⟨#[]⟩ = s) := by unfold Hid; rw [← h, flaw_out (out_of q)]
    clear h
    go_enter Tryd.func43, Tryd.ntmps43
    go_wp2_with (go_at_call 66; refine (between_any _ _ _ _).mono ?_; rintro e w_ ⟨rfl, rfl⟩)
    go_ret
    exact ⟨ret_string HE.out, by (repeat' (first | (with_reducible exact Below.refl _ _) | (with_reducible assumption) | (with_reducible refine Below.alloc ?_ ?_ _) | (with_reducible refine Below.drew ?_) | (with_reducible refine belowDrewN ?_ _) | (with_reducible refine Below.setCell ?_ ?_ _) | (with_reducible refine Below.via (by with_reducible assumption) ?_ ?_) | (with_reducible refine Below.viaD (by with_reducible assumption) ?_ ?_) | (with_reducible exact Below.size (by with_reducible assumption)) | go_size | (with_reducible refine Nat.le_trans ?_ (Below.size (by with_reducible assumption))) | (with_reducible refine Nat.le_trans ?_ (sizeAlloc _ _)) | (with_reducible refine Nat.le_trans ?_ (sizeSet _ _ _)) | (with_reducible refine Nat.le_trans ?_ (sizeDrew _))))⟩
  case true =>
    rcases in_of q with rfl | rfl | rfl | rfl | rfl
    all_goals
      subst h
      go_enter Tryd.func43, Tryd.ntmps43
      go_wp2_with (go_at_call 66; refine (between_any _ _ _ _).mono ?_; rintro e w_ ⟨rfl, rfl⟩)
      go_ret
      exact ⟨rfl, by (repeat' (first | (with_reducible exact Below.refl _ _) | (with_reducible assumption) | (with_reducible refine Below.alloc ?_ ?_ _) | (with_reducible refine Below.drew ?_) | (with_reducible refine belowDrewN ?_ _) | (with_reducible refine Below.setCell ?_ ?_ _) | (with_reducible refine Below.via (by with_reducible assumption) ?_ ?_) | (with_reducible refine Below.viaD (by with_reducible assumption) ?_ ?_) | (with_reducible exact Below.size (by with_reducible assumption)) | go_size | (with_reducible refine Nat.le_trans ?_ (Below.size (by with_reducible assumption))) | (with_reducible refine Nat.le_trans ?_ (sizeAlloc _ _)) | (with_reducible refine Nat.le_trans ?_ (sizeSet _ _ _)) | (with_reducible refine Nat.le_trans ?_ (sizeDrew _))))⟩
theorem l18Name_any (k : Int) (s : ByteArray) (h : flawS k = s) (w : World) : Calls Tryd.prog 41 #[.int .i64 k] w fun e w' => e = .returned (.string s) ∧ Below w.heap.size w w' := by
  cases q : inB k 0 4
  case false =>
    have HE : Hid (⟨#[]⟩ = s) := by unfold Hid; rw [← h, flaw_out (out_of q)]
    clear h
    go_enter Tryd.func41, Tryd.ntmps41
    go_wp2_with (go_at_call 67; refine (l00In_any _ _ _ _).mono ?_; rintro e w_ ⟨rfl, rfl⟩)
    go_ret
    exact ⟨ret_string HE.out, by (repeat' (first | (with_reducible exact Below.refl _ _) | (with_reducible assumption) | (with_reducible refine Below.alloc ?_ ?_ _) | (with_reducible refine Below.drew ?_) | (with_reducible refine belowDrewN ?_ _) | (with_reducible refine Below.setCell ?_ ?_ _) | (with_reducible refine Below.via (by with_reducible assumption) ?_ ?_) | (with_reducible refine Below.viaD (by with_reducible assumption) ?_ ?_) | (with_reducible exact Below.size (by with_reducible assumption)) | go_size | (with_reducible refine Nat.le_trans ?_ (Below.size (by with_reducible assumption))) | (with_reducible refine Nat.le_trans ?_ (sizeAlloc _ _)) | (with_reducible refine Nat.le_trans ?_ (sizeSet _ _ _)) | (with_reducible refine Nat.le_trans ?_ (sizeDrew _))))⟩
  case true =>
    rcases in_of q with rfl | rfl | rfl | rfl | rfl
    all_goals
      subst h
      go_enter Tryd.func41, Tryd.ntmps41
      go_wp2_with (go_at_call 67; refine (l00In_any _ _ _ _).mono ?_; rintro e w_ ⟨rfl, rfl⟩)
      go_ret
      exact ⟨rfl, by (repeat' (first | (with_reducible exact Below.refl _ _) | (with_reducible assumption) | (with_reducible refine Below.alloc ?_ ?_ _) | (with_reducible refine Below.drew ?_) | (with_reducible refine belowDrewN ?_ _) | (with_reducible refine Below.setCell ?_ ?_ _) | (with_reducible refine Below.via (by with_reducible assumption) ?_ ?_) | (with_reducible refine Below.viaD (by with_reducible assumption) ?_ ?_) | (with_reducible exact Below.size (by with_reducible assumption)) | go_size | (with_reducible refine Nat.le_trans ?_ (Below.size (by with_reducible assumption))) | (with_reducible refine Nat.le_trans ?_ (sizeAlloc _ _)) | (with_reducible refine Nat.le_trans ?_ (sizeSet _ _ _)) | (with_reducible refine Nat.le_trans ?_ (sizeDrew _))))⟩
end Go.Proofs.YtggnajoocfmgpaaDoor
