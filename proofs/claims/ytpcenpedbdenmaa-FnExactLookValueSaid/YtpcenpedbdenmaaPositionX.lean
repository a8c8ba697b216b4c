/- Position as data: the laws' own copies and comparisons. Conditions: lengths below 2^20. -/
import Derived.Test.YtpcenpedbdenmaaRules
namespace Go.Proofs.Ytpcenpedbdenmaa
set_option linter.unusedSimpArgs false
set_option linter.unusedVariables false
open Go.RowKit Go.WideShapes Go.ChangeShapes Go.Deep

/-- What a Position holds. -/
structure PositionD where
  pits : List Int
  stores : List Int
  player : Int
/-- The cells read as the data. -/
def XPosition (w : World) (cs : List Value) (d : PositionD) : Prop := ∃ (A_pits : Option Addr) (n_pits c_pits : Nat) (A_stores : Option Addr) (n_stores c_stores : Nat), cs = [.slice A_pits n_pits c_pits, .slice A_stores n_stores c_stores, .int .i64 d.player] ∧ Sl w w.heap.size 1 A_pits n_pits (d.pits.map (Value.int .i64)) ∧ n_pits ≤ 9223372036854775807 ∧ Sl w w.heap.size 1 A_stores n_stores (d.stores.map (Value.int .i64)) ∧ n_stores ≤ 9223372036854775807
theorem XPosition.later {w w' : World} {cs : List Value} {d : PositionD} (h : XPosition w cs d) (hb : Below w.heap.size w w') : XPosition w' cs d := by
  obtain ⟨A_pits, n_pits, c_pits, A_stores, n_stores, c_stores, e, s_pits, l_pits, s_stores, l_stores⟩ := h
  exact ⟨_, _, _, _, _, _, e, s_pits.later hb, l_pits, s_stores.later hb, l_stores⟩
theorem XPosition.drew {w : World} {cs : List Value} {d : PositionD} (h : XPosition w cs d) : XPosition w.drew cs d := by
  obtain ⟨A_pits, n_pits, c_pits, A_stores, n_stores, c_stores, e, s_pits, l_pits, s_stores, l_stores⟩ := h
  exact ⟨_, _, _, _, _, _, e, s_pits.drew, l_pits, s_stores.drew, l_stores⟩
theorem XPosition.drewN {w : World} {cs : List Value} {d : PositionD} (h : XPosition w cs d) (k : Nat) : XPosition (w.drewN k) cs d := by
  obtain ⟨A_pits, n_pits, c_pits, A_stores, n_stores, c_stores, e, s_pits, l_pits, s_stores, l_stores⟩ := h
  exact ⟨_, _, _, _, _, _, e, s_pits.drewN k, l_pits, s_stores.drewN k, l_stores⟩
theorem XPosition.boxed {w : World} {cs : List Value} {d : PositionD} (h : XPosition w cs d) (o : Obj) : XPosition (w.alloc o) cs d := h.later (boxed_ w o)
theorem XPosition.len {w : World} {cs : List Value} {d : PositionD} (h : XPosition w cs d) : cs.length = 3 := by
  obtain ⟨A_pits, n_pits, c_pits, A_stores, n_stores, c_stores, e, s_pits, l_pits, s_stores, l_stores⟩ := h
  rw [e]; rfl
/-- How many numbers the lists hold. -/
def szPosition (d : PositionD) : Nat := d.pits.length + d.stores.length
def ToPosition (d : PositionD) (w : World) (e : Ending) (w' : World) : Prop := ∃ cs, e = .returned (.agg cs.toArray) ∧ cs.length = 3 ∧ Kept w.heap.size w' (fun w'' => XPosition w'' cs d) ∧ Below w.heap.size w w'
set_option maxHeartbeats 1000000 in
theorem toPosition_lit (A A' : Option Addr) (n c n' c' : Nat) (pl : Int) (zs zs' : List Int) (w : World) (s : Sl w w.heap.size 1 A n (zs.map (Value.int .i64))) (s' : Sl w w.heap.size 1 A' n' (zs'.map (Value.int .i64))) (hn : n ≤ 1048576) (hn' : n' ≤ 1048576) : Calls Try.prog 27 #[.agg #[.slice A n c, .slice A' n' c', .int .i64 pl]] w fun e w' =>
    e = .returned (.agg #[.slice (some ⟨w.heap.size + 1 + 1 + 1, 0, none⟩) n n, .slice (some ⟨w.heap.size + 1 + 1 + 1 + 1, 0, none⟩) n' n', .int .i64 pl]) ∧
    w' = ((((w.alloc (.cells #[.slice A n c, .slice A' n' c', .int .i64 pl] 46)).alloc (.cells #[.slice (some ⟨w.heap.size + 1 + 1 + 1, 0, none⟩) n n, .slice (some ⟨w.heap.size + 1 + 1 + 1 + 1, 0, none⟩) n' n', .int .i64 pl] 49)).alloc (.cells #[.slice (some ⟨w.heap.size + 1 + 1 + 1, 0, none⟩) n n, .slice (some ⟨w.heap.size + 1 + 1 + 1 + 1, 0, none⟩) n' n', .int .i64 pl] 49)).alloc (.cells (zs.map (Value.int .i64)).toArray 2)).alloc (.cells (zs'.map (Value.int .i64)).toArray 2) := by
  go_enter Try.func27, Try.ntmps27
  go_wp2_with fail
  refine (toInt64S_any A n c zs _ (s.later (by (repeat' (first | (with_reducible exact Below.refl _ _) | (with_reducible assumption) | (with_reducible refine Below.alloc ?_ ?_ _) | (with_reducible refine Below.drew ?_) | (with_reducible refine belowDrewN ?_ _) | (with_reducible refine Below.setCell ?_ ?_ _) | (with_reducible refine Below.via (by with_reducible assumption) ?_ ?_) | (with_reducible refine Below.viaD (by with_reducible assumption) ?_ ?_) | (with_reducible exact Below.size (by with_reducible assumption)) | go_size | (with_reducible refine Nat.le_trans ?_ (Below.size (by with_reducible assumption))) | (with_reducible refine Nat.le_trans ?_ (sizeAlloc _ _)) | (with_reducible refine Nat.le_trans ?_ (sizeSet _ _ _)) | (with_reducible refine Nat.le_trans ?_ (sizeDrew _)))))) hn).mono ?_
  rintro e w1 ⟨rfl, rfl⟩
  go_wp2_with fail
  refine (toInt64S_any A' n' c' zs' _ (s'.later (by (repeat' (first | (with_reducible exact Below.refl _ _) | (with_reducible assumption) | (with_reducible refine Below.alloc ?_ ?_ _) | (with_reducible refine Below.drew ?_) | (with_reducible refine belowDrewN ?_ _) | (with_reducible refine Below.setCell ?_ ?_ _) | (with_reducible refine Below.via (by with_reducible assumption) ?_ ?_) | (with_reducible refine Below.viaD (by with_reducible assumption) ?_ ?_) | (with_reducible exact Below.size (by with_reducible assumption)) | go_size | (with_reducible refine Nat.le_trans ?_ (Below.size (by with_reducible assumption))) | (with_reducible refine Nat.le_trans ?_ (sizeAlloc _ _)) | (with_reducible refine Nat.le_trans ?_ (sizeSet _ _ _)) | (with_reducible refine Nat.le_trans ?_ (sizeDrew _)))))) hn').mono ?_
  rintro e w2 ⟨rfl, rfl⟩
  go_wp2_with fail
  go_returns
  exact ⟨rfl, rfl⟩
set_option maxRecDepth 100000 in
set_option maxHeartbeats 2000000 in
theorem toPosition_any (cs : List Value) (d : PositionD) (w : World) (h : XPosition w cs d) (hn : szPosition d ≤ 1048576) : Calls Try.prog 27 #[.agg cs.toArray] w (ToPosition d w) := by
  obtain ⟨A_pits, n_pits, c_pits, A_stores, n_stores, c_stores, e, s_pits, l_pits, s_stores, l_stores⟩ := h
  subst e
  unfold szPosition at hn
  have hl_pits := s_pits.ints
  have hl_stores := s_stores.ints
  have q_pits : n_pits ≤ 1048576 := by omega
  have q_stores : n_stores ≤ 1048576 := by omega
  have HL_pits := Lib.hid hl_pits; clear hl_pits
  have HL_stores := Lib.hid hl_stores; clear hl_stores
  go_enter Try.func27, Try.ntmps27
  go_wp2_with fail
  refine (toInt64S_any A_pits n_pits c_pits d.pits _ (s_pits.later (by (repeat' (first | (with_reducible exact Below.refl _ _) | (with_reducible assumption) | (with_reducible refine Below.alloc ?_ ?_ _) | (with_reducible refine Below.drew ?_) | (with_reducible refine belowDrewN ?_ _) | (with_reducible refine Below.setCell ?_ ?_ _) | (with_reducible refine Below.via (by with_reducible assumption) ?_ ?_) | (with_reducible refine Below.viaD (by with_reducible assumption) ?_ ?_) | (with_reducible exact Below.size (by with_reducible assumption)) | go_size | (with_reducible refine Nat.le_trans ?_ (Below.size (by with_reducible assumption))) | (with_reducible refine Nat.le_trans ?_ (sizeAlloc _ _)) | (with_reducible refine Nat.le_trans ?_ (sizeSet _ _ _)) | (with_reducible refine Nat.le_trans ?_ (sizeDrew _)))))) q_pits).mono ?_
  rintro e w1 ⟨rfl, rfl⟩
  go_wp2_with fail
  refine (toInt64S_any A_stores n_stores c_stores d.stores _ (s_stores.later (by (repeat' (first | (with_reducible exact Below.refl _ _) | (with_reducible assumption) | (with_reducible refine Below.alloc ?_ ?_ _) | (with_reducible refine Below.drew ?_) | (with_reducible refine belowDrewN ?_ _) | (with_reducible refine Below.setCell ?_ ?_ _) | (with_reducible refine Below.via (by with_reducible assumption) ?_ ?_) | (with_reducible refine Below.viaD (by with_reducible assumption) ?_ ?_) | (with_reducible exact Below.size (by with_reducible assumption)) | go_size | (with_reducible refine Nat.le_trans ?_ (Below.size (by with_reducible assumption))) | (with_reducible refine Nat.le_trans ?_ (sizeAlloc _ _)) | (with_reducible refine Nat.le_trans ?_ (sizeSet _ _ _)) | (with_reducible refine Nat.le_trans ?_ (sizeDrew _)))))) q_stores).mono ?_
  rintro e w2 ⟨rfl, rfl⟩
  go_wp2_with fail
  have hl_pits := HL_pits.out
  have hl_stores := HL_stores.out
  go_returns
  refine ⟨_, rfl, rfl, fun w'' hz hk => ⟨_, _, _, _, _, _, rfl, ?s_pits, l_pits, ?s_stores, l_stores⟩, by (repeat' (first | (with_reducible exact Below.refl _ _) | (with_reducible assumption) | (with_reducible refine Below.alloc ?_ ?_ _) | (with_reducible refine Below.drew ?_) | (with_reducible refine belowDrewN ?_ _) | (with_reducible refine Below.setCell ?_ ?_ _) | (with_reducible refine Below.via (by with_reducible assumption) ?_ ?_) | (with_reducible refine Below.viaD (by with_reducible assumption) ?_ ?_) | (with_reducible exact Below.size (by with_reducible assumption)) | go_size | (with_reducible refine Nat.le_trans ?_ (Below.size (by with_reducible assumption))) | (with_reducible refine Nat.le_trans ?_ (sizeAlloc _ _)) | (with_reducible refine Nat.le_trans ?_ (sizeSet _ _ _)) | (with_reducible refine Nat.le_trans ?_ (sizeDrew _))))⟩
  case s_pits =>
    refine Kept.use (X := fun w'' => Sl w'' w''.heap.size 1 _ _ _) hz hk ?_
    apply Kept.lowerS
    · (repeat (first | (exact Kept.copied (by simp) (by with_reducible assumption)) | (with_reducible assumption) | (with_reducible refine Kept.set ?_ _ ?_) | (with_reducible refine Kept.alloc ?_ _) | (with_reducible refine Kept.drew ?_) | (with_reducible refine Kept.later ?_ (by with_reducible assumption))))
      all_goals (first | omega | (simp; done) | (simp; omega))
    · (first | omega | (simp; done) | (simp; omega))
  case s_stores =>
    refine Kept.use (X := fun w'' => Sl w'' w''.heap.size 1 _ _ _) hz hk ?_
    apply Kept.lowerS
    · (repeat (first | (exact Kept.copied (by simp) (by with_reducible assumption)) | (with_reducible assumption) | (with_reducible refine Kept.set ?_ _ ?_) | (with_reducible refine Kept.alloc ?_ _) | (with_reducible refine Kept.drew ?_) | (with_reducible refine Kept.later ?_ (by with_reducible assumption))))
      all_goals (first | omega | (simp; done) | (simp; omega))
    · (first | omega | (simp; done) | (simp; omega))
set_option maxRecDepth 100000 in
theorem szPosition_le (cs : List Value) (d : PositionD) (left : Int) (w : World) (h : XPosition w cs d) (h1 : (szPosition d : Int) ≤ left) (h2 : left ≤ 1048576) : Calls Try.prog 25 #[.agg cs.toArray, .int .i64 left] w fun e w' => e = .returned (.int .i64 (left - (szPosition d : Nat))) ∧ Below w.heap.size w w' := by
  obtain ⟨A_pits, n_pits, c_pits, A_stores, n_stores, c_stores, e, s_pits, l_pits, s_stores, l_stores⟩ := h
  subst e
  unfold szPosition at *
  have e_pits := s_pits.ints
  have e_stores := s_stores.ints
  rw [e_pits] at h1 ⊢
  rw [e_stores] at h1 ⊢
  clear e_pits
  clear e_stores
  have HE : Hid (left - (n_pits : Nat) - (n_stores : Nat) = left - ((n_pits + n_stores : Nat) : Int)) := by unfold Hid; omega
  go_enter Try.func25, Try.ntmps25
  go_wp2_with fail
  refine (szInt64S_le A_pits n_pits c_pits (left) _ (by omega) (by omega)).mono ?_
  rintro e w_ ⟨rfl, rfl⟩
  go_wp2_with fail
  refine (szInt64S_le A_stores n_stores c_stores (left - (n_pits : Nat)) _ (by omega) (by omega)).mono ?_
  rintro e w_ ⟨rfl, rfl⟩
  go_wp2_with fail
  go_ret
  exact ⟨by rw [← HE.out]; rfl, by (repeat' (first | (with_reducible exact Below.refl _ _) | (with_reducible assumption) | (with_reducible refine Below.alloc ?_ ?_ _) | (with_reducible refine Below.drew ?_) | (with_reducible refine belowDrewN ?_ _) | (with_reducible refine Below.setCell ?_ ?_ _) | (with_reducible refine Below.via (by with_reducible assumption) ?_ ?_) | (with_reducible refine Below.viaD (by with_reducible assumption) ?_ ?_) | (with_reducible exact Below.size (by with_reducible assumption)) | go_size | (with_reducible refine Nat.le_trans ?_ (Below.size (by with_reducible assumption))) | (with_reducible refine Nat.le_trans ?_ (sizeAlloc _ _)) | (with_reducible refine Nat.le_trans ?_ (sizeSet _ _ _)) | (with_reducible refine Nat.le_trans ?_ (sizeDrew _))))⟩
set_option maxRecDepth 100000 in
theorem szPosition_gt (cs : List Value) (d : PositionD) (left : Int) (w : World) (h : XPosition w cs d) (h1 : left < (szPosition d : Int)) (h0 : 0 ≤ left) (h2 : left ≤ 1048576) : Calls Try.prog 25 #[.agg cs.toArray, .int .i64 left] w fun e w' => e = .returned (.int .i64 (-1)) ∧ Below w.heap.size w w' := by
  obtain ⟨A_pits, n_pits, c_pits, A_stores, n_stores, c_stores, e, s_pits, l_pits, s_stores, l_stores⟩ := h
  subst e
  unfold szPosition at *
  have e_pits := s_pits.ints
  have e_stores := s_stores.ints
  rw [e_pits] at h1
  rw [e_stores] at h1
  clear e_pits
  clear e_stores
  by_cases g0 : left < ((n_pits : Nat) : Int)
  case pos =>
    go_enter Try.func25, Try.ntmps25
    go_wp2_with fail
    refine (szInt64S_gt A_pits n_pits c_pits (left) _ (by omega) (by omega) l_pits).mono ?_
    rintro e w_ ⟨rfl, rfl⟩
    go_wp2_with fail
    go_ret
    exact ⟨rfl, by (repeat' (first | (with_reducible exact Below.refl _ _) | (with_reducible assumption) | (with_reducible refine Below.alloc ?_ ?_ _) | (with_reducible refine Below.drew ?_) | (with_reducible refine belowDrewN ?_ _) | (with_reducible refine Below.setCell ?_ ?_ _) | (with_reducible refine Below.via (by with_reducible assumption) ?_ ?_) | (with_reducible refine Below.viaD (by with_reducible assumption) ?_ ?_) | (with_reducible exact Below.size (by with_reducible assumption)) | go_size | (with_reducible refine Nat.le_trans ?_ (Below.size (by with_reducible assumption))) | (with_reducible refine Nat.le_trans ?_ (sizeAlloc _ _)) | (with_reducible refine Nat.le_trans ?_ (sizeSet _ _ _)) | (with_reducible refine Nat.le_trans ?_ (sizeDrew _))))⟩
  go_enter Try.func25, Try.ntmps25
  go_wp2_with fail
  refine (szInt64S_le A_pits n_pits c_pits (left) _ (by omega) (by omega)).mono ?_
  rintro e w_ ⟨rfl, rfl⟩
  go_wp2_with fail
  refine (szInt64S_gt A_stores n_stores c_stores (left - (n_pits : Nat)) _ (by omega) (by omega) l_stores).mono ?_
  rintro e w_ ⟨rfl, rfl⟩
  go_wp2_with fail
  go_ret
  exact ⟨rfl, by (repeat' (first | (with_reducible exact Below.refl _ _) | (with_reducible assumption) | (with_reducible refine Below.alloc ?_ ?_ _) | (with_reducible refine Below.drew ?_) | (with_reducible refine belowDrewN ?_ _) | (with_reducible refine Below.setCell ?_ ?_ _) | (with_reducible refine Below.via (by with_reducible assumption) ?_ ?_) | (with_reducible refine Below.viaD (by with_reducible assumption) ?_ ?_) | (with_reducible exact Below.size (by with_reducible assumption)) | go_size | (with_reducible refine Nat.le_trans ?_ (Below.size (by with_reducible assumption))) | (with_reducible refine Nat.le_trans ?_ (sizeAlloc _ _)) | (with_reducible refine Nat.le_trans ?_ (sizeSet _ _ _)) | (with_reducible refine Nat.le_trans ?_ (sizeDrew _))))⟩
set_option maxRecDepth 100000 in
set_option maxHeartbeats 2000000 in
theorem eqPosition_same (cs cs' : List Value) (d : PositionD) (w : World) (h : XPosition w cs d) (h' : XPosition w cs' d) : Calls Try.prog 29 #[.agg cs.toArray, .agg cs'.toArray] w fun e w' => e = .returned (.bool true) ∧ Below w.heap.size w w' := by
  obtain ⟨A_pits, n_pits, c_pits, A_stores, n_stores, c_stores, e, s_pits, l_pits, s_stores, l_stores⟩ := h
  obtain ⟨A_pits2, n_pits2, c_pits2, A_stores2, n_stores2, c_stores2, e2, s2_pits, l2_pits, s2_stores, l2_stores⟩ := h'
  subst e e2
  have hbeq_pits : (d.pits == d.pits) = true := beq_self_eq_true _
  have hbeq_stores : (d.stores == d.stores) = true := beq_self_eq_true _
  go_enter Try.func29, Try.ntmps29
  go_wp2_with fail
  refine (eqInt64S_any A_pits A_pits2 n_pits n_pits2 c_pits c_pits2 d.pits d.pits _ (s_pits.later (by (repeat' (first | (with_reducible exact Below.refl _ _) | (with_reducible assumption) | (with_reducible refine Below.alloc ?_ ?_ _) | (with_reducible refine Below.drew ?_) | (with_reducible refine belowDrewN ?_ _) | (with_reducible refine Below.setCell ?_ ?_ _) | (with_reducible refine Below.via (by with_reducible assumption) ?_ ?_) | (with_reducible refine Below.viaD (by with_reducible assumption) ?_ ?_) | (with_reducible exact Below.size (by with_reducible assumption)) | go_size | (with_reducible refine Nat.le_trans ?_ (Below.size (by with_reducible assumption))) | (with_reducible refine Nat.le_trans ?_ (sizeAlloc _ _)) | (with_reducible refine Nat.le_trans ?_ (sizeSet _ _ _)) | (with_reducible refine Nat.le_trans ?_ (sizeDrew _)))))) (s2_pits.later (by (repeat' (first | (with_reducible exact Below.refl _ _) | (with_reducible assumption) | (with_reducible refine Below.alloc ?_ ?_ _) | (with_reducible refine Below.drew ?_) | (with_reducible refine belowDrewN ?_ _) | (with_reducible refine Below.setCell ?_ ?_ _) | (with_reducible refine Below.via (by with_reducible assumption) ?_ ?_) | (with_reducible refine Below.viaD (by with_reducible assumption) ?_ ?_) | (with_reducible exact Below.size (by with_reducible assumption)) | go_size | (with_reducible refine Nat.le_trans ?_ (Below.size (by with_reducible assumption))) | (with_reducible refine Nat.le_trans ?_ (sizeAlloc _ _)) | (with_reducible refine Nat.le_trans ?_ (sizeSet _ _ _)) | (with_reducible refine Nat.le_trans ?_ (sizeDrew _)))))) l_pits l2_pits).mono ?_
  rintro e w1 ⟨rfl, hb1⟩
  obtain ⟨hc1, hf1, hl1, hz1⟩ := bfacts hb1
  go_wp2_with fail
  refine (eqInt64S_any A_stores A_stores2 n_stores n_stores2 c_stores c_stores2 d.stores d.stores _ (s_stores.later (by (repeat' (first | (with_reducible exact Below.refl _ _) | (with_reducible assumption) | (with_reducible refine Below.alloc ?_ ?_ _) | (with_reducible refine Below.drew ?_) | (with_reducible refine belowDrewN ?_ _) | (with_reducible refine Below.setCell ?_ ?_ _) | (with_reducible refine Below.via (by with_reducible assumption) ?_ ?_) | (with_reducible refine Below.viaD (by with_reducible assumption) ?_ ?_) | (with_reducible exact Below.size (by with_reducible assumption)) | go_size | (with_reducible refine Nat.le_trans ?_ (Below.size (by with_reducible assumption))) | (with_reducible refine Nat.le_trans ?_ (sizeAlloc _ _)) | (with_reducible refine Nat.le_trans ?_ (sizeSet _ _ _)) | (with_reducible refine Nat.le_trans ?_ (sizeDrew _)))))) (s2_stores.later (by (repeat' (first | (with_reducible exact Below.refl _ _) | (with_reducible assumption) | (with_reducible refine Below.alloc ?_ ?_ _) | (with_reducible refine Below.drew ?_) | (with_reducible refine belowDrewN ?_ _) | (with_reducible refine Below.setCell ?_ ?_ _) | (with_reducible refine Below.via (by with_reducible assumption) ?_ ?_) | (with_reducible refine Below.viaD (by with_reducible assumption) ?_ ?_) | (with_reducible exact Below.size (by with_reducible assumption)) | go_size | (with_reducible refine Nat.le_trans ?_ (Below.size (by with_reducible assumption))) | (with_reducible refine Nat.le_trans ?_ (sizeAlloc _ _)) | (with_reducible refine Nat.le_trans ?_ (sizeSet _ _ _)) | (with_reducible refine Nat.le_trans ?_ (sizeDrew _)))))) l_stores l2_stores).mono ?_
  rintro e w2 ⟨rfl, hb2⟩
  have C2 := Below.via hb2 hb1 hb1.size
  clear hc1 hf1 hl1 hz1
  obtain ⟨hc2, hf2, hl2, hz2⟩ := bfacts C2
  go_wp2_with fail
  go_ret
  exact ⟨rfl, by (repeat' (first | (with_reducible exact Below.refl _ _) | (with_reducible assumption) | (with_reducible refine Below.alloc ?_ ?_ _) | (with_reducible refine Below.drew ?_) | (with_reducible refine belowDrewN ?_ _) | (with_reducible refine Below.setCell ?_ ?_ _) | (with_reducible refine Below.via (by with_reducible assumption) ?_ ?_) | (with_reducible refine Below.viaD (by with_reducible assumption) ?_ ?_) | (with_reducible exact Below.size (by with_reducible assumption)) | go_size | (with_reducible refine Nat.le_trans ?_ (Below.size (by with_reducible assumption))) | (with_reducible refine Nat.le_trans ?_ (sizeAlloc _ _)) | (with_reducible refine Nat.le_trans ?_ (sizeSet _ _ _)) | (with_reducible refine Nat.le_trans ?_ (sizeDrew _))))⟩
end Go.Proofs.Ytpcenpedbdenmaa
