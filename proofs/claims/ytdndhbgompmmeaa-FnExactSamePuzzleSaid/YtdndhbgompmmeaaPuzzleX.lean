/- Puzzle as data: the laws' own copies and comparisons. Conditions: lengths below 2^20. -/
import Derived.Test.YtdndhbgompmmeaaPositionX
namespace Go.Proofs.Ytdndhbgompmmeaa
set_option linter.unusedSimpArgs false
set_option linter.unusedVariables false
open Go.RowKit Go.WideShapes Go.ChangeShapes Go.Deep

/-- What a Puzzle holds. -/
structure PuzzleD where
  r : Ru
  pos : PositionD
  depth : Int
  move : Int
  value : Int
  margin : Int
/-- The cells read as the data. -/
def XPuzzle (w : World) (cs : List Value) (d : PuzzleD) : Prop := ∃ (A_pos_pits : Option Addr) (n_pos_pits c_pos_pits : Nat) (A_pos_stores : Option Addr) (n_pos_stores c_pos_stores : Nat), cs = [.int .i64 d.r.p, .int .i64 d.r.s, .bool d.r.st, .bool d.r.sk, .bool d.r.re, .bool d.r.fe, .bool d.r.ag, .int .i64 d.r.ca, .int .i64 d.r.sl, .slice A_pos_pits n_pos_pits c_pos_pits, .slice A_pos_stores n_pos_stores c_pos_stores, .int .i64 d.pos.player, .int .i64 d.depth, .int .i64 d.move, .int .i64 d.value, .int .i64 d.margin] ∧ Sl w w.heap.size 1 A_pos_pits n_pos_pits (d.pos.pits.map (Value.int .i64)) ∧ n_pos_pits ≤ 9223372036854775807 ∧ Sl w w.heap.size 1 A_pos_stores n_pos_stores (d.pos.stores.map (Value.int .i64)) ∧ n_pos_stores ≤ 9223372036854775807
theorem XPuzzle.later {w w' : World} {cs : List Value} {d : PuzzleD} (h : XPuzzle w cs d) (hb : Below w.heap.size w w') : XPuzzle w' cs d := by
  obtain ⟨A_pos_pits, n_pos_pits, c_pos_pits, A_pos_stores, n_pos_stores, c_pos_stores, e, s_pos_pits, l_pos_pits, s_pos_stores, l_pos_stores⟩ := h
  exact ⟨_, _, _, _, _, _, e, s_pos_pits.later hb, l_pos_pits, s_pos_stores.later hb, l_pos_stores⟩
theorem XPuzzle.drew {w : World} {cs : List Value} {d : PuzzleD} (h : XPuzzle w cs d) : XPuzzle w.drew cs d := by
  obtain ⟨A_pos_pits, n_pos_pits, c_pos_pits, A_pos_stores, n_pos_stores, c_pos_stores, e, s_pos_pits, l_pos_pits, s_pos_stores, l_pos_stores⟩ := h
  exact ⟨_, _, _, _, _, _, e, s_pos_pits.drew, l_pos_pits, s_pos_stores.drew, l_pos_stores⟩
theorem XPuzzle.drewN {w : World} {cs : List Value} {d : PuzzleD} (h : XPuzzle w cs d) (k : Nat) : XPuzzle (w.drewN k) cs d := by
  obtain ⟨A_pos_pits, n_pos_pits, c_pos_pits, A_pos_stores, n_pos_stores, c_pos_stores, e, s_pos_pits, l_pos_pits, s_pos_stores, l_pos_stores⟩ := h
  exact ⟨_, _, _, _, _, _, e, s_pos_pits.drewN k, l_pos_pits, s_pos_stores.drewN k, l_pos_stores⟩
theorem XPuzzle.boxed {w : World} {cs : List Value} {d : PuzzleD} (h : XPuzzle w cs d) (o : Obj) : XPuzzle (w.alloc o) cs d := h.later (boxed_ w o)
theorem XPuzzle.len {w : World} {cs : List Value} {d : PuzzleD} (h : XPuzzle w cs d) : cs.length = 16 := by
  obtain ⟨A_pos_pits, n_pos_pits, c_pos_pits, A_pos_stores, n_pos_stores, c_pos_stores, e, s_pos_pits, l_pos_pits, s_pos_stores, l_pos_stores⟩ := h
  rw [e]; rfl
/-- How many numbers the lists hold. -/
def szPuzzle (d : PuzzleD) : Nat := szPosition d.pos
def ToPuzzle (d : PuzzleD) (w : World) (e : Ending) (w' : World) : Prop := ∃ cs, e = .returned (.agg cs.toArray) ∧ cs.length = 16 ∧ Kept w.heap.size w' (fun w'' => XPuzzle w'' cs d) ∧ Below w.heap.size w w'
set_option maxRecDepth 100000 in
set_option maxHeartbeats 2000000 in
theorem toPuzzle_any (cs : List Value) (d : PuzzleD) (w : World) (h : XPuzzle w cs d) (hn : szPuzzle d ≤ 1048576) : Calls Try.prog 47 #[.agg cs.toArray] w (ToPuzzle d w) := by
  obtain ⟨A_pos_pits, n_pos_pits, c_pos_pits, A_pos_stores, n_pos_stores, c_pos_stores, e, s_pos_pits, l_pos_pits, s_pos_stores, l_pos_stores⟩ := h
  subst e
  unfold szPuzzle szPosition at hn
  have hl_pos_pits := s_pos_pits.ints
  have hl_pos_stores := s_pos_stores.ints
  have q_pos_pits : n_pos_pits ≤ 1048576 := by omega
  have q_pos_stores : n_pos_stores ≤ 1048576 := by omega
  have HL_pos_pits := Lib.hid hl_pos_pits; clear hl_pos_pits
  have HL_pos_stores := Lib.hid hl_pos_stores; clear hl_pos_stores
  go_enter Try.func47, Try.ntmps47
  go_wp2_with fail
  refine (toRules_lit d.r _).mono ?_
  rintro e w1 ⟨rfl, rfl⟩
  go_wp2_with fail
  refine (toPosition_lit A_pos_pits A_pos_stores n_pos_pits c_pos_pits n_pos_stores c_pos_stores d.pos.player d.pos.pits d.pos.stores _ (s_pos_pits.later (by (repeat' (first | (with_reducible exact Below.refl _ _) | (with_reducible assumption) | (with_reducible refine Below.alloc ?_ ?_ _) | (with_reducible refine Below.drew ?_) | (with_reducible refine belowDrewN ?_ _) | (with_reducible refine Below.setCell ?_ ?_ _) | (with_reducible refine Below.via (by with_reducible assumption) ?_ ?_) | (with_reducible refine Below.viaD (by with_reducible assumption) ?_ ?_) | (with_reducible exact Below.size (by with_reducible assumption)) | go_size | (with_reducible refine Nat.le_trans ?_ (Below.size (by with_reducible assumption))) | (with_reducible refine Nat.le_trans ?_ (sizeAlloc _ _)) | (with_reducible refine Nat.le_trans ?_ (sizeSet _ _ _)) | (with_reducible refine Nat.le_trans ?_ (sizeDrew _)))))) (s_pos_stores.later (by (repeat' (first | (with_reducible exact Below.refl _ _) | (with_reducible assumption) | (with_reducible refine Below.alloc ?_ ?_ _) | (with_reducible refine Below.drew ?_) | (with_reducible refine belowDrewN ?_ _) | (with_reducible refine Below.setCell ?_ ?_ _) | (with_reducible refine Below.via (by with_reducible assumption) ?_ ?_) | (with_reducible refine Below.viaD (by with_reducible assumption) ?_ ?_) | (with_reducible exact Below.size (by with_reducible assumption)) | go_size | (with_reducible refine Nat.le_trans ?_ (Below.size (by with_reducible assumption))) | (with_reducible refine Nat.le_trans ?_ (sizeAlloc _ _)) | (with_reducible refine Nat.le_trans ?_ (sizeSet _ _ _)) | (with_reducible refine Nat.le_trans ?_ (sizeDrew _)))))) q_pos_pits q_pos_stores).mono ?_
  rintro e w2 ⟨rfl, rfl⟩
  go_wp2_with fail
  have hl_pos_pits := HL_pos_pits.out
  have hl_pos_stores := HL_pos_stores.out
  go_returns
  refine ⟨_, rfl, rfl, fun w'' hz hk => ⟨_, _, _, _, _, _, rfl, ?s_pos_pits, l_pos_pits, ?s_pos_stores, l_pos_stores⟩, by (repeat' (first | (with_reducible exact Below.refl _ _) | (with_reducible assumption) | (with_reducible refine Below.alloc ?_ ?_ _) | (with_reducible refine Below.drew ?_) | (with_reducible refine belowDrewN ?_ _) | (with_reducible refine Below.setCell ?_ ?_ _) | (with_reducible refine Below.via (by with_reducible assumption) ?_ ?_) | (with_reducible refine Below.viaD (by with_reducible assumption) ?_ ?_) | (with_reducible exact Below.size (by with_reducible assumption)) | go_size | (with_reducible refine Nat.le_trans ?_ (Below.size (by with_reducible assumption))) | (with_reducible refine Nat.le_trans ?_ (sizeAlloc _ _)) | (with_reducible refine Nat.le_trans ?_ (sizeSet _ _ _)) | (with_reducible refine Nat.le_trans ?_ (sizeDrew _))))⟩
  case s_pos_pits =>
    refine Kept.use (X := fun w'' => Sl w'' w''.heap.size 1 _ _ _) hz hk ?_
    apply Kept.lowerS
    · (repeat (first | (exact Kept.copied (by simp) (by with_reducible assumption)) | (with_reducible assumption) | (with_reducible refine Kept.set ?_ _ ?_) | (with_reducible refine Kept.alloc ?_ _) | (with_reducible refine Kept.drew ?_) | (with_reducible refine Kept.later ?_ (by with_reducible assumption))))
      all_goals (first | omega | (simp; done) | (simp; omega))
    · (first | omega | (simp; done) | (simp; omega))
  case s_pos_stores =>
    refine Kept.use (X := fun w'' => Sl w'' w''.heap.size 1 _ _ _) hz hk ?_
    apply Kept.lowerS
    · (repeat (first | (exact Kept.copied (by simp) (by with_reducible assumption)) | (with_reducible assumption) | (with_reducible refine Kept.set ?_ _ ?_) | (with_reducible refine Kept.alloc ?_ _) | (with_reducible refine Kept.drew ?_) | (with_reducible refine Kept.later ?_ (by with_reducible assumption))))
      all_goals (first | omega | (simp; done) | (simp; omega))
    · (first | omega | (simp; done) | (simp; omega))
set_option maxRecDepth 100000 in
theorem szPuzzle_le (cs : List Value) (d : PuzzleD) (left : Int) (w : World) (h : XPuzzle w cs d) (h1 : (szPuzzle d : Int) ≤ left) (h2 : left ≤ 1048576) : Calls Try.prog 45 #[.agg cs.toArray, .int .i64 left] w fun e w' => e = .returned (.int .i64 (left - (szPuzzle d : Nat))) ∧ Below w.heap.size w w' := by
  obtain ⟨A_pos_pits, n_pos_pits, c_pos_pits, A_pos_stores, n_pos_stores, c_pos_stores, e, s_pos_pits, l_pos_pits, s_pos_stores, l_pos_stores⟩ := h
  subst e
  unfold szPuzzle at *
  have HE : Hid (left - (szPosition d.pos : Nat) = left - ((szPosition d.pos : Nat) : Int)) := by unfold Hid; omega
  go_enter Try.func45, Try.ntmps45
  go_wp2_with fail
  refine (szPosition_le _ d.pos (left) _ (XPosition.later ⟨_, _, _, _, _, _, rfl, s_pos_pits, l_pos_pits, s_pos_stores, l_pos_stores⟩ (by (repeat' (first | (with_reducible exact Below.refl _ _) | (with_reducible assumption) | (with_reducible refine Below.alloc ?_ ?_ _) | (with_reducible refine Below.drew ?_) | (with_reducible refine belowDrewN ?_ _) | (with_reducible refine Below.setCell ?_ ?_ _) | (with_reducible refine Below.via (by with_reducible assumption) ?_ ?_) | (with_reducible refine Below.viaD (by with_reducible assumption) ?_ ?_) | (with_reducible exact Below.size (by with_reducible assumption)) | go_size | (with_reducible refine Nat.le_trans ?_ (Below.size (by with_reducible assumption))) | (with_reducible refine Nat.le_trans ?_ (sizeAlloc _ _)) | (with_reducible refine Nat.le_trans ?_ (sizeSet _ _ _)) | (with_reducible refine Nat.le_trans ?_ (sizeDrew _)))))) (by omega) (by omega)).mono ?_
  rintro e w0 ⟨rfl, hb0⟩
  obtain ⟨hc0, hf0, hl0, hz0⟩ := bfacts hb0
  go_wp2_with fail
  go_ret
  exact ⟨by first | (rw [← HE.out]; rfl) | rfl, by (repeat' (first | (with_reducible exact Below.refl _ _) | (with_reducible assumption) | (with_reducible refine Below.alloc ?_ ?_ _) | (with_reducible refine Below.drew ?_) | (with_reducible refine belowDrewN ?_ _) | (with_reducible refine Below.setCell ?_ ?_ _) | (with_reducible refine Below.via (by with_reducible assumption) ?_ ?_) | (with_reducible refine Below.viaD (by with_reducible assumption) ?_ ?_) | (with_reducible exact Below.size (by with_reducible assumption)) | go_size | (with_reducible refine Nat.le_trans ?_ (Below.size (by with_reducible assumption))) | (with_reducible refine Nat.le_trans ?_ (sizeAlloc _ _)) | (with_reducible refine Nat.le_trans ?_ (sizeSet _ _ _)) | (with_reducible refine Nat.le_trans ?_ (sizeDrew _))))⟩
set_option maxRecDepth 100000 in
theorem szPuzzle_gt (cs : List Value) (d : PuzzleD) (left : Int) (w : World) (h : XPuzzle w cs d) (h1 : left < (szPuzzle d : Int)) (h0 : 0 ≤ left) (h2 : left ≤ 1048576) : Calls Try.prog 45 #[.agg cs.toArray, .int .i64 left] w fun e w' => e = .returned (.int .i64 (-1)) ∧ Below w.heap.size w w' := by
  obtain ⟨A_pos_pits, n_pos_pits, c_pos_pits, A_pos_stores, n_pos_stores, c_pos_stores, e, s_pos_pits, l_pos_pits, s_pos_stores, l_pos_stores⟩ := h
  subst e
  unfold szPuzzle at *
  go_enter Try.func45, Try.ntmps45
  go_wp2_with fail
  refine (szPosition_gt _ d.pos (left) _ (XPosition.later ⟨_, _, _, _, _, _, rfl, s_pos_pits, l_pos_pits, s_pos_stores, l_pos_stores⟩ (by (repeat' (first | (with_reducible exact Below.refl _ _) | (with_reducible assumption) | (with_reducible refine Below.alloc ?_ ?_ _) | (with_reducible refine Below.drew ?_) | (with_reducible refine belowDrewN ?_ _) | (with_reducible refine Below.setCell ?_ ?_ _) | (with_reducible refine Below.via (by with_reducible assumption) ?_ ?_) | (with_reducible refine Below.viaD (by with_reducible assumption) ?_ ?_) | (with_reducible exact Below.size (by with_reducible assumption)) | go_size | (with_reducible refine Nat.le_trans ?_ (Below.size (by with_reducible assumption))) | (with_reducible refine Nat.le_trans ?_ (sizeAlloc _ _)) | (with_reducible refine Nat.le_trans ?_ (sizeSet _ _ _)) | (with_reducible refine Nat.le_trans ?_ (sizeDrew _)))))) (by omega) (by omega) (by omega)).mono ?_
  rintro e w0 ⟨rfl, hb0⟩
  obtain ⟨hc0, hf0, hl0, hz0⟩ := bfacts hb0
  go_wp2_with fail
  go_ret
  exact ⟨rfl, by (repeat' (first | (with_reducible exact Below.refl _ _) | (with_reducible assumption) | (with_reducible refine Below.alloc ?_ ?_ _) | (with_reducible refine Below.drew ?_) | (with_reducible refine belowDrewN ?_ _) | (with_reducible refine Below.setCell ?_ ?_ _) | (with_reducible refine Below.via (by with_reducible assumption) ?_ ?_) | (with_reducible refine Below.viaD (by with_reducible assumption) ?_ ?_) | (with_reducible exact Below.size (by with_reducible assumption)) | go_size | (with_reducible refine Nat.le_trans ?_ (Below.size (by with_reducible assumption))) | (with_reducible refine Nat.le_trans ?_ (sizeAlloc _ _)) | (with_reducible refine Nat.le_trans ?_ (sizeSet _ _ _)) | (with_reducible refine Nat.le_trans ?_ (sizeDrew _))))⟩
set_option maxRecDepth 100000 in
set_option maxHeartbeats 2000000 in
theorem eqPuzzle_same (cs cs' : List Value) (d : PuzzleD) (w : World) (h : XPuzzle w cs d) (h' : XPuzzle w cs' d) : Calls Try.prog 49 #[.agg cs.toArray, .agg cs'.toArray] w fun e w' => e = .returned (.bool true) ∧ Below w.heap.size w w' := by
  obtain ⟨A_pos_pits, n_pos_pits, c_pos_pits, A_pos_stores, n_pos_stores, c_pos_stores, e, s_pos_pits, l_pos_pits, s_pos_stores, l_pos_stores⟩ := h
  obtain ⟨A_pos_pits2, n_pos_pits2, c_pos_pits2, A_pos_stores2, n_pos_stores2, c_pos_stores2, e2, s2_pos_pits, l2_pos_pits, s2_pos_stores, l2_pos_stores⟩ := h'
  subst e e2
  go_enter Try.func49, Try.ntmps49
  go_wp2_with fail
  refine (eqRules_same d.r _).mono ?_
  rintro e w1 ⟨rfl, hb1⟩
  obtain ⟨hc1, hf1, hl1, hz1⟩ := bfacts hb1
  go_wp2_with fail
  refine (eqPosition_same _ _ d.pos _ (XPosition.later ⟨_, _, _, _, _, _, rfl, s_pos_pits, l_pos_pits, s_pos_stores, l_pos_stores⟩ (by (repeat' (first | (with_reducible exact Below.refl _ _) | (with_reducible assumption) | (with_reducible refine Below.alloc ?_ ?_ _) | (with_reducible refine Below.drew ?_) | (with_reducible refine belowDrewN ?_ _) | (with_reducible refine Below.setCell ?_ ?_ _) | (with_reducible refine Below.via (by with_reducible assumption) ?_ ?_) | (with_reducible refine Below.viaD (by with_reducible assumption) ?_ ?_) | (with_reducible exact Below.size (by with_reducible assumption)) | go_size | (with_reducible refine Nat.le_trans ?_ (Below.size (by with_reducible assumption))) | (with_reducible refine Nat.le_trans ?_ (sizeAlloc _ _)) | (with_reducible refine Nat.le_trans ?_ (sizeSet _ _ _)) | (with_reducible refine Nat.le_trans ?_ (sizeDrew _)))))) (XPosition.later ⟨_, _, _, _, _, _, rfl, s2_pos_pits, l2_pos_pits, s2_pos_stores, l2_pos_stores⟩ (by (repeat' (first | (with_reducible exact Below.refl _ _) | (with_reducible assumption) | (with_reducible refine Below.alloc ?_ ?_ _) | (with_reducible refine Below.drew ?_) | (with_reducible refine belowDrewN ?_ _) | (with_reducible refine Below.setCell ?_ ?_ _) | (with_reducible refine Below.via (by with_reducible assumption) ?_ ?_) | (with_reducible refine Below.viaD (by with_reducible assumption) ?_ ?_) | (with_reducible exact Below.size (by with_reducible assumption)) | go_size | (with_reducible refine Nat.le_trans ?_ (Below.size (by with_reducible assumption))) | (with_reducible refine Nat.le_trans ?_ (sizeAlloc _ _)) | (with_reducible refine Nat.le_trans ?_ (sizeSet _ _ _)) | (with_reducible refine Nat.le_trans ?_ (sizeDrew _))))))).mono ?_
  rintro e w2 ⟨rfl, hb2⟩
  have C2 := Below.via hb2 hb1 hb1.size
  clear hc1 hf1 hl1 hz1
  obtain ⟨hc2, hf2, hl2, hz2⟩ := bfacts C2
  go_wp2_with fail
  go_ret
  exact ⟨rfl, by (repeat' (first | (with_reducible exact Below.refl _ _) | (with_reducible assumption) | (with_reducible refine Below.alloc ?_ ?_ _) | (with_reducible refine Below.drew ?_) | (with_reducible refine belowDrewN ?_ _) | (with_reducible refine Below.setCell ?_ ?_ _) | (with_reducible refine Below.via (by with_reducible assumption) ?_ ?_) | (with_reducible refine Below.viaD (by with_reducible assumption) ?_ ?_) | (with_reducible exact Below.size (by with_reducible assumption)) | go_size | (with_reducible refine Nat.le_trans ?_ (Below.size (by with_reducible assumption))) | (with_reducible refine Nat.le_trans ?_ (sizeAlloc _ _)) | (with_reducible refine Nat.le_trans ?_ (sizeSet _ _ _)) | (with_reducible refine Nat.le_trans ?_ (sizeDrew _))))⟩
end Go.Proofs.Ytdndhbgompmmeaa
