/- Table as data: the laws' own copies and comparisons. Conditions: lengths below 2^20. -/
import Derived.Test.YtdndhbgompmmeaaRules
namespace Go.Proofs.Ytdndhbgompmmeaa
set_option linter.unusedSimpArgs false
set_option linter.unusedVariables false
open Go.RowKit Go.WideShapes Go.ChangeShapes Go.Deep

/-- What a Table holds. -/
structure TableD where
  r : Ru
  most : Int
  vs : List Int
  rs : List Int
/-- The cells read as the data. -/
def XTable (w : World) (cs : List Value) (d : TableD) : Prop := ∃ (A_vs : Option Addr) (n_vs c_vs : Nat) (A_rs : Option Addr) (n_rs c_rs : Nat), cs = [.int .i64 d.r.p, .int .i64 d.r.s, .bool d.r.st, .bool d.r.sk, .bool d.r.re, .bool d.r.fe, .bool d.r.ag, .int .i64 d.r.ca, .int .i64 d.r.sl, .int .i64 d.most, .slice A_vs n_vs c_vs, .slice A_rs n_rs c_rs] ∧ Sl w w.heap.size 1 A_vs n_vs (d.vs.map (Value.int .i64)) ∧ n_vs ≤ 9223372036854775807 ∧ Sl w w.heap.size 1 A_rs n_rs (d.rs.map (Value.int .i64)) ∧ n_rs ≤ 9223372036854775807
theorem XTable.later {w w' : World} {cs : List Value} {d : TableD} (h : XTable w cs d) (hb : Below w.heap.size w w') : XTable w' cs d := by
  obtain ⟨A_vs, n_vs, c_vs, A_rs, n_rs, c_rs, e, s_vs, l_vs, s_rs, l_rs⟩ := h
  exact ⟨_, _, _, _, _, _, e, s_vs.later hb, l_vs, s_rs.later hb, l_rs⟩
theorem XTable.drew {w : World} {cs : List Value} {d : TableD} (h : XTable w cs d) : XTable w.drew cs d := by
  obtain ⟨A_vs, n_vs, c_vs, A_rs, n_rs, c_rs, e, s_vs, l_vs, s_rs, l_rs⟩ := h
  exact ⟨_, _, _, _, _, _, e, s_vs.drew, l_vs, s_rs.drew, l_rs⟩
theorem XTable.boxed {w : World} {cs : List Value} {d : TableD} (h : XTable w cs d) (o : Obj) : XTable (w.alloc o) cs d := h.later (boxed_ w o)
theorem XTable.len {w : World} {cs : List Value} {d : TableD} (h : XTable w cs d) : cs.length = 12 := by
  obtain ⟨A_vs, n_vs, c_vs, A_rs, n_rs, c_rs, e, s_vs, l_vs, s_rs, l_rs⟩ := h
  rw [e]; rfl
/-- How many numbers the lists hold. -/
def szTable (d : TableD) : Nat := d.vs.length + d.rs.length
def ToTable (d : TableD) (w : World) (e : Ending) (w' : World) : Prop := ∃ cs, e = .returned (.agg cs.toArray) ∧ cs.length = 12 ∧ Kept w.heap.size w' (fun w'' => XTable w'' cs d) ∧ Below w.heap.size w w'
set_option maxRecDepth 100000 in
set_option maxHeartbeats 2000000 in
theorem toTable_any (cs : List Value) (d : TableD) (w : World) (h : XTable w cs d) (hn : szTable d ≤ 1048576) : Calls Try.prog 28 #[.agg cs.toArray] w (ToTable d w) := by
  obtain ⟨A_vs, n_vs, c_vs, A_rs, n_rs, c_rs, e, s_vs, l_vs, s_rs, l_rs⟩ := h
  subst e
  unfold szTable at hn
  have hl_vs := s_vs.ints
  have hl_rs := s_rs.ints
  have q_vs : n_vs ≤ 1048576 := by omega
  have q_rs : n_rs ≤ 1048576 := by omega
  have HL_vs := Lib.hid hl_vs; clear hl_vs
  have HL_rs := Lib.hid hl_rs; clear hl_rs
  go_enter Try.func28, Try.ntmps28
  go_wp2_with fail
  refine (toRules_lit d.r _).mono ?_
  rintro e w1 ⟨rfl, rfl⟩
  go_wp2_with fail
  refine (toInt64S_any A_vs n_vs c_vs d.vs _ (s_vs.later (by (repeat' (first | (with_reducible exact Below.refl _ _) | (with_reducible assumption) | (with_reducible refine Below.alloc ?_ ?_ _) | (with_reducible refine Below.drew ?_) | (with_reducible refine belowDrewN ?_ _) | (with_reducible refine Below.setCell ?_ ?_ _) | (with_reducible refine Below.via (by with_reducible assumption) ?_ ?_) | (with_reducible exact Below.size (by with_reducible assumption)) | go_size | (with_reducible refine Nat.le_trans ?_ (Below.size (by with_reducible assumption))) | (with_reducible refine Nat.le_trans ?_ (sizeAlloc _ _)) | (with_reducible refine Nat.le_trans ?_ (sizeSet _ _ _)) | (with_reducible refine Nat.le_trans ?_ (sizeDrew _)))))) q_vs).mono ?_
  rintro e w2 ⟨rfl, rfl⟩
  go_wp2_with fail
  refine (toInt64S_any A_rs n_rs c_rs d.rs _ (s_rs.later (by (repeat' (first | (with_reducible exact Below.refl _ _) | (with_reducible assumption) | (with_reducible refine Below.alloc ?_ ?_ _) | (with_reducible refine Below.drew ?_) | (with_reducible refine belowDrewN ?_ _) | (with_reducible refine Below.setCell ?_ ?_ _) | (with_reducible refine Below.via (by with_reducible assumption) ?_ ?_) | (with_reducible exact Below.size (by with_reducible assumption)) | go_size | (with_reducible refine Nat.le_trans ?_ (Below.size (by with_reducible assumption))) | (with_reducible refine Nat.le_trans ?_ (sizeAlloc _ _)) | (with_reducible refine Nat.le_trans ?_ (sizeSet _ _ _)) | (with_reducible refine Nat.le_trans ?_ (sizeDrew _)))))) q_rs).mono ?_
  rintro e w3 ⟨rfl, rfl⟩
  go_wp2_with fail
  have hl_vs := HL_vs.out
  have hl_rs := HL_rs.out
  go_returns
  refine ⟨_, rfl, rfl, fun w'' hz hk => ⟨_, _, _, _, _, _, rfl, ?s_vs, l_vs, ?s_rs, l_rs⟩, by (repeat' (first | (with_reducible exact Below.refl _ _) | (with_reducible assumption) | (with_reducible refine Below.alloc ?_ ?_ _) | (with_reducible refine Below.drew ?_) | (with_reducible refine belowDrewN ?_ _) | (with_reducible refine Below.setCell ?_ ?_ _) | (with_reducible refine Below.via (by with_reducible assumption) ?_ ?_) | (with_reducible exact Below.size (by with_reducible assumption)) | go_size | (with_reducible refine Nat.le_trans ?_ (Below.size (by with_reducible assumption))) | (with_reducible refine Nat.le_trans ?_ (sizeAlloc _ _)) | (with_reducible refine Nat.le_trans ?_ (sizeSet _ _ _)) | (with_reducible refine Nat.le_trans ?_ (sizeDrew _))))⟩
  case s_vs =>
    refine Kept.use (X := fun w'' => Sl w'' w''.heap.size 1 _ _ _) hz hk ?_
    apply Kept.lowerS
    · (repeat (first | (exact Kept.copied (by simp) (by with_reducible assumption)) | (with_reducible assumption) | (with_reducible refine Kept.set ?_ _ ?_) | (with_reducible refine Kept.alloc ?_ _) | (with_reducible refine Kept.drew ?_) | (with_reducible refine Kept.later ?_ (by with_reducible assumption))))
      all_goals (first | omega | (simp; done) | (simp; omega))
    · (first | omega | (simp; done) | (simp; omega))
  case s_rs =>
    refine Kept.use (X := fun w'' => Sl w'' w''.heap.size 1 _ _ _) hz hk ?_
    apply Kept.lowerS
    · (repeat (first | (exact Kept.copied (by simp) (by with_reducible assumption)) | (with_reducible assumption) | (with_reducible refine Kept.set ?_ _ ?_) | (with_reducible refine Kept.alloc ?_ _) | (with_reducible refine Kept.drew ?_) | (with_reducible refine Kept.later ?_ (by with_reducible assumption))))
      all_goals (first | omega | (simp; done) | (simp; omega))
    · (first | omega | (simp; done) | (simp; omega))
set_option maxRecDepth 100000 in
theorem szTable_le (cs : List Value) (d : TableD) (left : Int) (w : World) (h : XTable w cs d) (h1 : (szTable d : Int) ≤ left) (h2 : left ≤ 1048576) : Calls Try.prog 26 #[.agg cs.toArray, .int .i64 left] w fun e w' => e = .returned (.int .i64 (left - (szTable d : Nat))) ∧ Below w.heap.size w w' := by
  obtain ⟨A_vs, n_vs, c_vs, A_rs, n_rs, c_rs, e, s_vs, l_vs, s_rs, l_rs⟩ := h
  subst e
  unfold szTable at *
  have e_vs := s_vs.ints
  have e_rs := s_rs.ints
  rw [e_vs] at h1 ⊢
  rw [e_rs] at h1 ⊢
  clear e_vs
  clear e_rs
  have HE : Hid (left - (n_vs : Nat) - (n_rs : Nat) = left - ((n_vs + n_rs : Nat) : Int)) := by unfold Hid; omega
  go_enter Try.func26, Try.ntmps26
  go_wp2_with fail
  refine (szInt64S_le A_vs n_vs c_vs (left) _ (by omega) (by omega)).mono ?_
  rintro e w_ ⟨rfl, rfl⟩
  go_wp2_with fail
  refine (szInt64S_le A_rs n_rs c_rs (left - (n_vs : Nat)) _ (by omega) (by omega)).mono ?_
  rintro e w_ ⟨rfl, rfl⟩
  go_wp2_with fail
  go_ret
  exact ⟨by rw [← HE.out]; rfl, by (repeat' (first | (with_reducible exact Below.refl _ _) | (with_reducible assumption) | (with_reducible refine Below.alloc ?_ ?_ _) | (with_reducible refine Below.drew ?_) | (with_reducible refine belowDrewN ?_ _) | (with_reducible refine Below.setCell ?_ ?_ _) | (with_reducible refine Below.via (by with_reducible assumption) ?_ ?_) | (with_reducible exact Below.size (by with_reducible assumption)) | go_size | (with_reducible refine Nat.le_trans ?_ (Below.size (by with_reducible assumption))) | (with_reducible refine Nat.le_trans ?_ (sizeAlloc _ _)) | (with_reducible refine Nat.le_trans ?_ (sizeSet _ _ _)) | (with_reducible refine Nat.le_trans ?_ (sizeDrew _))))⟩
set_option maxRecDepth 100000 in
theorem szTable_gt (cs : List Value) (d : TableD) (left : Int) (w : World) (h : XTable w cs d) (h1 : left < (szTable d : Int)) (h0 : 0 ≤ left) (h2 : left ≤ 1048576) : Calls Try.prog 26 #[.agg cs.toArray, .int .i64 left] w fun e w' => e = .returned (.int .i64 (-1)) ∧ Below w.heap.size w w' := by
  obtain ⟨A_vs, n_vs, c_vs, A_rs, n_rs, c_rs, e, s_vs, l_vs, s_rs, l_rs⟩ := h
  subst e
  unfold szTable at *
  have e_vs := s_vs.ints
  have e_rs := s_rs.ints
  rw [e_vs] at h1
  rw [e_rs] at h1
  clear e_vs
  clear e_rs
  by_cases g0 : left < ((n_vs : Nat) : Int)
  case pos =>
    go_enter Try.func26, Try.ntmps26
    go_wp2_with fail
    refine (szInt64S_gt A_vs n_vs c_vs (left) _ (by omega) (by omega) l_vs).mono ?_
    rintro e w_ ⟨rfl, rfl⟩
    go_wp2_with fail
    go_ret
    exact ⟨rfl, by (repeat' (first | (with_reducible exact Below.refl _ _) | (with_reducible assumption) | (with_reducible refine Below.alloc ?_ ?_ _) | (with_reducible refine Below.drew ?_) | (with_reducible refine belowDrewN ?_ _) | (with_reducible refine Below.setCell ?_ ?_ _) | (with_reducible refine Below.via (by with_reducible assumption) ?_ ?_) | (with_reducible exact Below.size (by with_reducible assumption)) | go_size | (with_reducible refine Nat.le_trans ?_ (Below.size (by with_reducible assumption))) | (with_reducible refine Nat.le_trans ?_ (sizeAlloc _ _)) | (with_reducible refine Nat.le_trans ?_ (sizeSet _ _ _)) | (with_reducible refine Nat.le_trans ?_ (sizeDrew _))))⟩
  go_enter Try.func26, Try.ntmps26
  go_wp2_with fail
  refine (szInt64S_le A_vs n_vs c_vs (left) _ (by omega) (by omega)).mono ?_
  rintro e w_ ⟨rfl, rfl⟩
  go_wp2_with fail
  refine (szInt64S_gt A_rs n_rs c_rs (left - (n_vs : Nat)) _ (by omega) (by omega) l_rs).mono ?_
  rintro e w_ ⟨rfl, rfl⟩
  go_wp2_with fail
  go_ret
  exact ⟨rfl, by (repeat' (first | (with_reducible exact Below.refl _ _) | (with_reducible assumption) | (with_reducible refine Below.alloc ?_ ?_ _) | (with_reducible refine Below.drew ?_) | (with_reducible refine belowDrewN ?_ _) | (with_reducible refine Below.setCell ?_ ?_ _) | (with_reducible refine Below.via (by with_reducible assumption) ?_ ?_) | (with_reducible exact Below.size (by with_reducible assumption)) | go_size | (with_reducible refine Nat.le_trans ?_ (Below.size (by with_reducible assumption))) | (with_reducible refine Nat.le_trans ?_ (sizeAlloc _ _)) | (with_reducible refine Nat.le_trans ?_ (sizeSet _ _ _)) | (with_reducible refine Nat.le_trans ?_ (sizeDrew _))))⟩
set_option maxRecDepth 100000 in
set_option maxHeartbeats 2000000 in
theorem eqTable_same (cs cs' : List Value) (d : TableD) (w : World) (h : XTable w cs d) (h' : XTable w cs' d) : Calls Try.prog 30 #[.agg cs.toArray, .agg cs'.toArray] w fun e w' => e = .returned (.bool true) ∧ Below w.heap.size w w' := by
  obtain ⟨A_vs, n_vs, c_vs, A_rs, n_rs, c_rs, e, s_vs, l_vs, s_rs, l_rs⟩ := h
  obtain ⟨A_vs2, n_vs2, c_vs2, A_rs2, n_rs2, c_rs2, e2, s2_vs, l2_vs, s2_rs, l2_rs⟩ := h'
  subst e e2
  have hbeq_vs : (d.vs == d.vs) = true := beq_self_eq_true _
  have hbeq_rs : (d.rs == d.rs) = true := beq_self_eq_true _
  go_enter Try.func30, Try.ntmps30
  go_wp2_with fail
  refine (eqRules_same d.r _).mono ?_
  rintro e w1 ⟨rfl, hb1⟩
  obtain ⟨hc1, hf1, hl1, hz1⟩ := bfacts hb1
  go_wp2_with fail
  refine (eqInt64S_any A_vs A_vs2 n_vs n_vs2 c_vs c_vs2 d.vs d.vs _ (s_vs.later (by (repeat' (first | (with_reducible exact Below.refl _ _) | (with_reducible assumption) | (with_reducible refine Below.alloc ?_ ?_ _) | (with_reducible refine Below.drew ?_) | (with_reducible refine belowDrewN ?_ _) | (with_reducible refine Below.setCell ?_ ?_ _) | (with_reducible refine Below.via (by with_reducible assumption) ?_ ?_) | (with_reducible exact Below.size (by with_reducible assumption)) | go_size | (with_reducible refine Nat.le_trans ?_ (Below.size (by with_reducible assumption))) | (with_reducible refine Nat.le_trans ?_ (sizeAlloc _ _)) | (with_reducible refine Nat.le_trans ?_ (sizeSet _ _ _)) | (with_reducible refine Nat.le_trans ?_ (sizeDrew _)))))) (s2_vs.later (by (repeat' (first | (with_reducible exact Below.refl _ _) | (with_reducible assumption) | (with_reducible refine Below.alloc ?_ ?_ _) | (with_reducible refine Below.drew ?_) | (with_reducible refine belowDrewN ?_ _) | (with_reducible refine Below.setCell ?_ ?_ _) | (with_reducible refine Below.via (by with_reducible assumption) ?_ ?_) | (with_reducible exact Below.size (by with_reducible assumption)) | go_size | (with_reducible refine Nat.le_trans ?_ (Below.size (by with_reducible assumption))) | (with_reducible refine Nat.le_trans ?_ (sizeAlloc _ _)) | (with_reducible refine Nat.le_trans ?_ (sizeSet _ _ _)) | (with_reducible refine Nat.le_trans ?_ (sizeDrew _)))))) l_vs l2_vs).mono ?_
  rintro e w2 ⟨rfl, hb2⟩
  have C2 := Below.via hb2 hb1 hb1.size
  clear hc1 hf1 hl1 hz1
  obtain ⟨hc2, hf2, hl2, hz2⟩ := bfacts C2
  go_wp2_with fail
  refine (eqInt64S_any A_rs A_rs2 n_rs n_rs2 c_rs c_rs2 d.rs d.rs _ (s_rs.later (by (repeat' (first | (with_reducible exact Below.refl _ _) | (with_reducible assumption) | (with_reducible refine Below.alloc ?_ ?_ _) | (with_reducible refine Below.drew ?_) | (with_reducible refine belowDrewN ?_ _) | (with_reducible refine Below.setCell ?_ ?_ _) | (with_reducible refine Below.via (by with_reducible assumption) ?_ ?_) | (with_reducible exact Below.size (by with_reducible assumption)) | go_size | (with_reducible refine Nat.le_trans ?_ (Below.size (by with_reducible assumption))) | (with_reducible refine Nat.le_trans ?_ (sizeAlloc _ _)) | (with_reducible refine Nat.le_trans ?_ (sizeSet _ _ _)) | (with_reducible refine Nat.le_trans ?_ (sizeDrew _)))))) (s2_rs.later (by (repeat' (first | (with_reducible exact Below.refl _ _) | (with_reducible assumption) | (with_reducible refine Below.alloc ?_ ?_ _) | (with_reducible refine Below.drew ?_) | (with_reducible refine belowDrewN ?_ _) | (with_reducible refine Below.setCell ?_ ?_ _) | (with_reducible refine Below.via (by with_reducible assumption) ?_ ?_) | (with_reducible exact Below.size (by with_reducible assumption)) | go_size | (with_reducible refine Nat.le_trans ?_ (Below.size (by with_reducible assumption))) | (with_reducible refine Nat.le_trans ?_ (sizeAlloc _ _)) | (with_reducible refine Nat.le_trans ?_ (sizeSet _ _ _)) | (with_reducible refine Nat.le_trans ?_ (sizeDrew _)))))) l_rs l2_rs).mono ?_
  rintro e w3 ⟨rfl, hb3⟩
  have C3 := Below.via hb3 C2 C2.size
  clear hc2 hf2 hl2 hz2
  obtain ⟨hc3, hf3, hl3, hz3⟩ := bfacts C3
  go_wp2_with fail
  go_ret
  exact ⟨rfl, by (repeat' (first | (with_reducible exact Below.refl _ _) | (with_reducible assumption) | (with_reducible refine Below.alloc ?_ ?_ _) | (with_reducible refine Below.drew ?_) | (with_reducible refine belowDrewN ?_ _) | (with_reducible refine Below.setCell ?_ ?_ _) | (with_reducible refine Below.via (by with_reducible assumption) ?_ ?_) | (with_reducible exact Below.size (by with_reducible assumption)) | go_size | (with_reducible refine Nat.le_trans ?_ (Below.size (by with_reducible assumption))) | (with_reducible refine Nat.le_trans ?_ (sizeAlloc _ _)) | (with_reducible refine Nat.le_trans ?_ (sizeSet _ _ _)) | (with_reducible refine Nat.le_trans ?_ (sizeDrew _))))⟩
end Go.Proofs.Ytdndhbgompmmeaa
