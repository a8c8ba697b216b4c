/- SamePuzzle: the program's functions over data. No conditions. -/
import Derived.Test.YtdndhbgompmmeaaPuzzleX
import Derived.Test.YtdndhbgompmmeaaSame
namespace Go.Proofs.Ytdndhbgompmmeaa
set_option linter.unusedSimpArgs false
set_option linter.unusedVariables false
open Go.RowKit

def samePosition (d d' : PositionD) : Bool := (d.player == d'.player) && (d.pits == d'.pits) && (d.stores == d'.stores)
def samePuzzle (d d' : PuzzleD) : Bool := d.r.same d'.r && samePosition d.pos d'.pos && (d.depth == d'.depth) && (d.move == d'.move) && (d.value == d'.value) && (d.margin == d'.margin)
set_option maxRecDepth 100000 in
set_option maxHeartbeats 2000000 in
theorem SamePosition_any (cs cs' : List Value) (d d' : PositionD) (w : World) (h : XPosition w cs d) (h' : XPosition w cs' d') : Calls Try.prog 72 #[.agg cs.toArray, .agg cs'.toArray] w fun e w' => e = .returned (.bool (samePosition d d')) ∧ Below w.heap.size w w' := by
  obtain ⟨A_vs, n_vs, c_vs, A_rs, n_rs, c_rs, e, s_vs, l_vs, s_rs, l_rs⟩ := h
  obtain ⟨A_vs', n_vs', c_vs', A_rs', n_rs', c_rs', e2, s_vs', l_vs', s_rs', l_rs'⟩ := h'
  subst e e2
  obtain ⟨r, hr⟩ : ∃ r, samePosition d d' = r := ⟨_, rfl⟩
  have HR := Lib.hid hr
  clear hr
  rw [HR.out]
  obtain ⟨q, hq⟩ : ∃ q, (d.pits == d'.pits) = q := ⟨_, rfl⟩
  obtain ⟨q2, hq2⟩ : ∃ q, (d.stores == d'.stores) = q := ⟨_, rfl⟩
  have HQ := Lib.hid hq
  have HQ2 := Lib.hid hq2
  clear hq hq2
  cases q <;> cases q2
  all_goals
    go_enter Try.func72, Try.ntmps72
    go_wp2_with (first | (go_at_call 60; ((with_reducible refine (sameNumbers_any A_vs A_vs' n_vs n_vs' c_vs c_vs' d.pits d'.pits _ (s_vs.later (by (repeat' (first | (with_reducible exact Below.refl _ _) | (with_reducible assumption) | (with_reducible refine Below.alloc ?_ ?_ _) | (with_reducible refine Below.drew ?_) | (with_reducible refine belowDrewN ?_ _) | (with_reducible refine Below.setCell ?_ ?_ _) | (with_reducible refine Below.via (by with_reducible assumption) ?_ ?_) | (with_reducible refine Below.viaD (by with_reducible assumption) ?_ ?_) | (with_reducible exact Below.size (by with_reducible assumption)) | go_size | (with_reducible refine Nat.le_trans ?_ (Below.size (by with_reducible assumption))) | (with_reducible refine Nat.le_trans ?_ (sizeAlloc _ _)) | (with_reducible refine Nat.le_trans ?_ (sizeSet _ _ _)) | (with_reducible refine Nat.le_trans ?_ (sizeDrew _)))))) (s_vs'.later (by (repeat' (first | (with_reducible exact Below.refl _ _) | (with_reducible assumption) | (with_reducible refine Below.alloc ?_ ?_ _) | (with_reducible refine Below.drew ?_) | (with_reducible refine belowDrewN ?_ _) | (with_reducible refine Below.setCell ?_ ?_ _) | (with_reducible refine Below.via (by with_reducible assumption) ?_ ?_) | (with_reducible refine Below.viaD (by with_reducible assumption) ?_ ?_) | (with_reducible exact Below.size (by with_reducible assumption)) | go_size | (with_reducible refine Nat.le_trans ?_ (Below.size (by with_reducible assumption))) | (with_reducible refine Nat.le_trans ?_ (sizeAlloc _ _)) | (with_reducible refine Nat.le_trans ?_ (sizeSet _ _ _)) | (with_reducible refine Nat.le_trans ?_ (sizeDrew _)))))) l_vs l_vs').mono ?_)); rw [HQ.out]; rintro e w1 ⟨rfl, hb1⟩; obtain ⟨hc1, hf1, hl1, hz1⟩ := bfacts hb1) | (go_at_call 60; ((with_reducible refine (sameNumbers_any A_rs A_rs' n_rs n_rs' c_rs c_rs' d.stores d'.stores _ (s_rs.later (by (repeat' (first | (with_reducible exact Below.refl _ _) | (with_reducible assumption) | (with_reducible refine Below.alloc ?_ ?_ _) | (with_reducible refine Below.drew ?_) | (with_reducible refine belowDrewN ?_ _) | (with_reducible refine Below.setCell ?_ ?_ _) | (with_reducible refine Below.via (by with_reducible assumption) ?_ ?_) | (with_reducible refine Below.viaD (by with_reducible assumption) ?_ ?_) | (with_reducible exact Below.size (by with_reducible assumption)) | go_size | (with_reducible refine Nat.le_trans ?_ (Below.size (by with_reducible assumption))) | (with_reducible refine Nat.le_trans ?_ (sizeAlloc _ _)) | (with_reducible refine Nat.le_trans ?_ (sizeSet _ _ _)) | (with_reducible refine Nat.le_trans ?_ (sizeDrew _)))))) (s_rs'.later (by (repeat' (first | (with_reducible exact Below.refl _ _) | (with_reducible assumption) | (with_reducible refine Below.alloc ?_ ?_ _) | (with_reducible refine Below.drew ?_) | (with_reducible refine belowDrewN ?_ _) | (with_reducible refine Below.setCell ?_ ?_ _) | (with_reducible refine Below.via (by with_reducible assumption) ?_ ?_) | (with_reducible refine Below.viaD (by with_reducible assumption) ?_ ?_) | (with_reducible exact Below.size (by with_reducible assumption)) | go_size | (with_reducible refine Nat.le_trans ?_ (Below.size (by with_reducible assumption))) | (with_reducible refine Nat.le_trans ?_ (sizeAlloc _ _)) | (with_reducible refine Nat.le_trans ?_ (sizeSet _ _ _)) | (with_reducible refine Nat.le_trans ?_ (sizeDrew _)))))) l_rs l_rs').mono ?_)); rw [HQ2.out]; rintro e w2 ⟨rfl, hb2⟩))
    all_goals
      have h1 := HR.out
      have h2 := HQ.out
      have h3 := HQ2.out
      simp only [samePosition, h2, h3] at h1
      go_ret
      refine ⟨?_, by (repeat' (first | (with_reducible exact Below.refl _ _) | (with_reducible assumption) | (with_reducible refine Below.alloc ?_ ?_ _) | (with_reducible refine Below.drew ?_) | (with_reducible refine belowDrewN ?_ _) | (with_reducible refine Below.setCell ?_ ?_ _) | (with_reducible refine Below.via (by with_reducible assumption) ?_ ?_) | (with_reducible refine Below.viaD (by with_reducible assumption) ?_ ?_) | (with_reducible exact Below.size (by with_reducible assumption)) | go_size | (with_reducible refine Nat.le_trans ?_ (Below.size (by with_reducible assumption))) | (with_reducible refine Nat.le_trans ?_ (sizeAlloc _ _)) | (with_reducible refine Nat.le_trans ?_ (sizeSet _ _ _)) | (with_reducible refine Nat.le_trans ?_ (sizeDrew _))))⟩
      subst h1
      simp [*]
set_option maxRecDepth 100000 in
set_option maxHeartbeats 2000000 in
theorem SamePuzzle_any (cs cs' : List Value) (d d' : PuzzleD) (w : World) (h : XPuzzle w cs d) (h' : XPuzzle w cs' d') : Calls Try.prog 48 #[.agg cs.toArray, .agg cs'.toArray] w fun e w' => e = .returned (.bool (samePuzzle d d')) ∧ Below w.heap.size w w' := by
  obtain ⟨A_vs, n_vs, c_vs, A_rs, n_rs, c_rs, e, s_vs, l_vs, s_rs, l_rs⟩ := h
  obtain ⟨A_vs', n_vs', c_vs', A_rs', n_rs', c_rs', e2, s_vs', l_vs', s_rs', l_rs'⟩ := h'
  subst e e2
  obtain ⟨r, hr⟩ : ∃ r, samePuzzle d d' = r := ⟨_, rfl⟩
  have HR := Lib.hid hr
  clear hr
  rw [HR.out]
  obtain ⟨q, hq⟩ : ∃ q, samePosition d.pos d'.pos = q := ⟨_, rfl⟩
  have HQ := Lib.hid hq
  clear hq
  cases q
  all_goals
    go_enter Try.func48, Try.ntmps48
    go_wp2_with (go_at_call 72; refine (SamePosition_any [.slice A_vs n_vs c_vs, .slice A_rs n_rs c_rs, .int .i64 d.pos.player] [.slice A_vs' n_vs' c_vs', .slice A_rs' n_rs' c_rs', .int .i64 d'.pos.player] d.pos d'.pos _ (XPosition.later ⟨_, _, _, _, _, _, rfl, s_vs, l_vs, s_rs, l_rs⟩ (by (repeat' (first | (with_reducible exact Below.refl _ _) | (with_reducible assumption) | (with_reducible refine Below.alloc ?_ ?_ _) | (with_reducible refine Below.drew ?_) | (with_reducible refine belowDrewN ?_ _) | (with_reducible refine Below.setCell ?_ ?_ _) | (with_reducible refine Below.via (by with_reducible assumption) ?_ ?_) | (with_reducible refine Below.viaD (by with_reducible assumption) ?_ ?_) | (with_reducible exact Below.size (by with_reducible assumption)) | go_size | (with_reducible refine Nat.le_trans ?_ (Below.size (by with_reducible assumption))) | (with_reducible refine Nat.le_trans ?_ (sizeAlloc _ _)) | (with_reducible refine Nat.le_trans ?_ (sizeSet _ _ _)) | (with_reducible refine Nat.le_trans ?_ (sizeDrew _)))))) (XPosition.later ⟨_, _, _, _, _, _, rfl, s_vs', l_vs', s_rs', l_rs'⟩ (by (repeat' (first | (with_reducible exact Below.refl _ _) | (with_reducible assumption) | (with_reducible refine Below.alloc ?_ ?_ _) | (with_reducible refine Below.drew ?_) | (with_reducible refine belowDrewN ?_ _) | (with_reducible refine Below.setCell ?_ ?_ _) | (with_reducible refine Below.via (by with_reducible assumption) ?_ ?_) | (with_reducible refine Below.viaD (by with_reducible assumption) ?_ ?_) | (with_reducible exact Below.size (by with_reducible assumption)) | go_size | (with_reducible refine Nat.le_trans ?_ (Below.size (by with_reducible assumption))) | (with_reducible refine Nat.le_trans ?_ (sizeAlloc _ _)) | (with_reducible refine Nat.le_trans ?_ (sizeSet _ _ _)) | (with_reducible refine Nat.le_trans ?_ (sizeDrew _))))))).mono ?_; rw [HQ.out]; rintro e w1 ⟨rfl, hb1⟩; obtain ⟨hc1, hf1, hl1, hz1⟩ := bfacts hb1)
    all_goals
      have h1 := HR.out
      have h2 := HQ.out
      simp only [samePuzzle, Ru.same, h2] at h1
      go_ret
      refine ⟨?_, by (repeat' (first | (with_reducible exact Below.refl _ _) | (with_reducible assumption) | (with_reducible refine Below.alloc ?_ ?_ _) | (with_reducible refine Below.drew ?_) | (with_reducible refine belowDrewN ?_ _) | (with_reducible refine Below.setCell ?_ ?_ _) | (with_reducible refine Below.via (by with_reducible assumption) ?_ ?_) | (with_reducible refine Below.viaD (by with_reducible assumption) ?_ ?_) | (with_reducible exact Below.size (by with_reducible assumption)) | go_size | (with_reducible refine Nat.le_trans ?_ (Below.size (by with_reducible assumption))) | (with_reducible refine Nat.le_trans ?_ (sizeAlloc _ _)) | (with_reducible refine Nat.le_trans ?_ (sizeSet _ _ _)) | (with_reducible refine Nat.le_trans ?_ (sizeDrew _))))⟩
      subst h1
      simp [*]
end Go.Proofs.Ytdndhbgompmmeaa
