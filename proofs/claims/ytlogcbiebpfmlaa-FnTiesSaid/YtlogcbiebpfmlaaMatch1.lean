/- Valid matches: both functions, and the law. No conditions beyond lengths. -/
import Derived.Test.YtlogcbiebpfmlaaMatchS
namespace Go.Proofs.Ytlogcbiebpfmlaa
set_option linter.unusedSimpArgs false
set_option linter.unusedVariables false
open Go.RowKit

theorem quiet_left {P : Program} {f : FuncId} {args : Array Value} {w : World} {n : Nat} {v : Value}
    (h : Calls P f args (w.drewN n) fun e w' => e = .returned v ∧ w.drewN n = w') : Calls P f args (w.drewN n) fun e w'' => e = .returned v ∧ ∃ m, w'' = w.drewN m :=
  h.mono fun _ _ ⟨he, hm⟩ => ⟨he, n, hm.symm⟩
theorem l24Players_any (n : Int) (w : World) : Calls Try.prog 30 #[.int .i64 n] w fun e w' => e = .returned (.bool (inB n 2 12)) ∧ w = w' := by
  go_enter Try.func30, Try.ntmps30
  go_wp2_with (go_at_call 19; refine (l00In_any _ _ _ _).mono ?_; rintro e w_ ⟨rfl, rfl⟩)
  go_ret
  exact ⟨rfl, rfl⟩
theorem isCount_any (n : Int) (w : World) : Calls Try.prog 26 #[.int .i64 n] w fun e w' => e = .returned (.bool (inB n 2 12)) ∧ w = w' := by
  go_enter Try.func26, Try.ntmps26
  go_wp2_with (go_at_call 16; refine (between_any _ _ _ _).mono ?_; rintro e w_ ⟨rfl, rfl⟩)
  go_ret
  exact ⟨rfl, rfl⟩
theorem l00In_lit {n a b : Int} {r : Bool} (h : inB n a b = r) (w : World) : Calls Try.prog 19 #[.int .i64 n, .int .i64 a, .int .i64 b] w fun e w' => e = .returned (.bool r) ∧ w = w' := by
  rw [← h]; exact l00In_any _ _ _ _
theorem between_lit {n a b : Int} {r : Bool} (h : inB n a b = r) (w : World) : Calls Try.prog 16 #[.int .i64 n, .int .i64 a, .int .i64 b] w fun e w' => e = .returned (.bool r) ∧ w = w' := by
  rw [← h]; exact between_any _ _ _ _
def mOk (m a b s : Int) : Bool := inB a 0 m && inB b 0 m && !(a == b) && inB s 0 2
set_option maxHeartbeats 1000000 in
theorem l26Match_any (n m a b s : Int) (blk o : Nat) (w : World) (hm : wrap64 (n - 1) = m) (h0 : w.cell? ⟨blk, o, none⟩ = some (.int .i64 a)) (h1 : w.cell? ⟨blk, o + 1, none⟩ = some (.int .i64 b)) (h2 : w.cell? ⟨blk, o + 2, none⟩ = some (.int .i64 s)) :
    Calls Try.prog 31 #[.int .i64 n, .pointer (some ⟨blk, o, none⟩)] w fun e w' => e = .returned (.bool (mOk m a b s)) ∧ Below w.heap.size w w' := by
  cases q1 : inB a 0 m
  case false =>
    have HE : Hid (mOk m a b s = false) := by unfold Hid; rw [mOk, q1]; rfl
    have W1 := Lib.hid q1
    go_enter Try.func31, Try.ntmps31
    go_wp2_with fail
    first | (refine wp_region_quiet_lit (by kernel_rfl) (by kernel_rfl) ?_; refine WQ.of ?_; (repeat (refine WQ.step (fun K hK => ?_); go_simp; first | (refine hK _ ?_; clear hK K) | (apply Exists.intro; refine ⟨fun _ => ?_, hK _ ?_⟩; ((go_at_call 19; (first | (with_reducible exact quiet_left (l00In_lit W1.out _)) | exact quiet_left (l00In_any _ _ _ _)))); clear hK K))); refine WQ.nil ?_; intro _ hw'; obtain ⟨nq, hw''⟩ := hw'; subst hw'') | go_quiet ((go_at_call 19; (first | (with_reducible exact quiet_left (l00In_lit W1.out _)) | exact quiet_left (l00In_any _ _ _ _))))
    go_wp2_with fail
    go_ret
    exact ⟨by rw [HE.out]; rfl, by (repeat' (first | (with_reducible exact Below.refl _ _) | (with_reducible assumption) | (with_reducible refine Below.alloc ?_ ?_ _) | (with_reducible refine Below.drew ?_) | (with_reducible refine belowDrewN ?_ _) | (with_reducible refine Below.setCell ?_ ?_ _) | (with_reducible refine Below.via (by with_reducible assumption) ?_ ?_) | (with_reducible refine Below.viaD (by with_reducible assumption) ?_ ?_) | (with_reducible exact Below.size (by with_reducible assumption)) | go_size | (with_reducible refine Nat.le_trans ?_ (Below.size (by with_reducible assumption))) | (with_reducible refine Nat.le_trans ?_ (sizeAlloc _ _)) | (with_reducible refine Nat.le_trans ?_ (sizeSet _ _ _)) | (with_reducible refine Nat.le_trans ?_ (sizeDrew _))))⟩
  case true =>
    cases q2 : inB b 0 m
    case false =>
      have HE : Hid (mOk m a b s = false) := by unfold Hid; rw [mOk, q1, q2]; rfl
      have W1 := Lib.hid q1
      have W2 := Lib.hid q2
      go_enter Try.func31, Try.ntmps31
      go_wp2_with fail
      first | (refine wp_region_quiet_lit (by kernel_rfl) (by kernel_rfl) ?_; refine WQ.of ?_; (repeat (refine WQ.step (fun K hK => ?_); go_simp; first | (refine hK _ ?_; clear hK K) | (apply Exists.intro; refine ⟨fun _ => ?_, hK _ ?_⟩; ((go_at_call 19; (first | (with_reducible exact quiet_left (l00In_lit W1.out _)) | (with_reducible exact quiet_left (l00In_lit W2.out _)) | exact quiet_left (l00In_any _ _ _ _)))); clear hK K))); refine WQ.nil ?_; intro _ hw'; obtain ⟨nq, hw''⟩ := hw'; subst hw'') | go_quiet ((go_at_call 19; (first | (with_reducible exact quiet_left (l00In_lit W1.out _)) | (with_reducible exact quiet_left (l00In_lit W2.out _)) | exact quiet_left (l00In_any _ _ _ _))))
      go_wp2_with fail
      go_ret
      exact ⟨by rw [HE.out]; rfl, by (repeat' (first | (with_reducible exact Below.refl _ _) | (with_reducible assumption) | (with_reducible refine Below.alloc ?_ ?_ _) | (with_reducible refine Below.drew ?_) | (with_reducible refine belowDrewN ?_ _) | (with_reducible refine Below.setCell ?_ ?_ _) | (with_reducible refine Below.via (by with_reducible assumption) ?_ ?_) | (with_reducible refine Below.viaD (by with_reducible assumption) ?_ ?_) | (with_reducible exact Below.size (by with_reducible assumption)) | go_size | (with_reducible refine Nat.le_trans ?_ (Below.size (by with_reducible assumption))) | (with_reducible refine Nat.le_trans ?_ (sizeAlloc _ _)) | (with_reducible refine Nat.le_trans ?_ (sizeSet _ _ _)) | (with_reducible refine Nat.le_trans ?_ (sizeDrew _))))⟩
    case true =>
      cases q3 : (a == b)
      case true =>
        have HE : Hid (mOk m a b s = false) := by unfold Hid; rw [mOk, q1, q2, q3]; rfl
        have q4 : (a != b) = false := by rw [bne, q3]; rfl
        have W1 := Lib.hid q1
        have W2 := Lib.hid q2
        go_enter Try.func31, Try.ntmps31
        go_wp2_with fail
        first | (refine wp_region_quiet_lit (by kernel_rfl) (by kernel_rfl) ?_; refine WQ.of ?_; (repeat (refine WQ.step (fun K hK => ?_); go_simp; first | (refine hK _ ?_; clear hK K) | (apply Exists.intro; refine ⟨fun _ => ?_, hK _ ?_⟩; ((go_at_call 19; (first | (with_reducible exact quiet_left (l00In_lit W1.out _)) | (with_reducible exact quiet_left (l00In_lit W2.out _)) | exact quiet_left (l00In_any _ _ _ _)))); clear hK K))); refine WQ.nil ?_; intro _ hw'; obtain ⟨nq, hw''⟩ := hw'; subst hw'') | go_quiet ((go_at_call 19; (first | (with_reducible exact quiet_left (l00In_lit W1.out _)) | (with_reducible exact quiet_left (l00In_lit W2.out _)) | exact quiet_left (l00In_any _ _ _ _))))
        go_wp2_with fail
        go_ret
        exact ⟨by rw [HE.out]; rfl, by (repeat' (first | (with_reducible exact Below.refl _ _) | (with_reducible assumption) | (with_reducible refine Below.alloc ?_ ?_ _) | (with_reducible refine Below.drew ?_) | (with_reducible refine belowDrewN ?_ _) | (with_reducible refine Below.setCell ?_ ?_ _) | (with_reducible refine Below.via (by with_reducible assumption) ?_ ?_) | (with_reducible refine Below.viaD (by with_reducible assumption) ?_ ?_) | (with_reducible exact Below.size (by with_reducible assumption)) | go_size | (with_reducible refine Nat.le_trans ?_ (Below.size (by with_reducible assumption))) | (with_reducible refine Nat.le_trans ?_ (sizeAlloc _ _)) | (with_reducible refine Nat.le_trans ?_ (sizeSet _ _ _)) | (with_reducible refine Nat.le_trans ?_ (sizeDrew _))))⟩
      case false =>
        have HE : Hid (mOk m a b s = inB s 0 2) := by unfold Hid; rw [mOk, q1, q2, q3]; rfl
        have q4 : (a != b) = true := by rw [bne, q3]; rfl
        have W1 := Lib.hid q1
        have W2 := Lib.hid q2
        go_enter Try.func31, Try.ntmps31
        go_wp2_with fail
        first | (refine wp_region_quiet_lit (by kernel_rfl) (by kernel_rfl) ?_; refine WQ.of ?_; (repeat (refine WQ.step (fun K hK => ?_); go_simp; first | (refine hK _ ?_; clear hK K) | (apply Exists.intro; refine ⟨fun _ => ?_, hK _ ?_⟩; ((go_at_call 19; (first | (with_reducible exact quiet_left (l00In_lit W1.out _)) | (with_reducible exact quiet_left (l00In_lit W2.out _)) | exact quiet_left (l00In_any _ _ _ _)))); clear hK K))); refine WQ.nil ?_; intro _ hw'; obtain ⟨nq, hw''⟩ := hw'; subst hw'') | go_quiet ((go_at_call 19; (first | (with_reducible exact quiet_left (l00In_lit W1.out _)) | (with_reducible exact quiet_left (l00In_lit W2.out _)) | exact quiet_left (l00In_any _ _ _ _))))
        go_wp2_with fail
        go_ret
        exact ⟨by rw [HE.out]; rfl, by (repeat' (first | (with_reducible exact Below.refl _ _) | (with_reducible assumption) | (with_reducible refine Below.alloc ?_ ?_ _) | (with_reducible refine Below.drew ?_) | (with_reducible refine belowDrewN ?_ _) | (with_reducible refine Below.setCell ?_ ?_ _) | (with_reducible refine Below.via (by with_reducible assumption) ?_ ?_) | (with_reducible refine Below.viaD (by with_reducible assumption) ?_ ?_) | (with_reducible exact Below.size (by with_reducible assumption)) | go_size | (with_reducible refine Nat.le_trans ?_ (Below.size (by with_reducible assumption))) | (with_reducible refine Nat.le_trans ?_ (sizeAlloc _ _)) | (with_reducible refine Nat.le_trans ?_ (sizeSet _ _ _)) | (with_reducible refine Nat.le_trans ?_ (sizeDrew _))))⟩
set_option maxHeartbeats 1000000 in
theorem validMatch_any (n m a b s : Int) (f : Bool) (w : World) (hm : wrap64 (n - 1) = m) :
    Calls Try.prog 27 #[.int .i64 n, .agg #[.int .i64 a, .int .i64 b, .int .i64 s, .bool f]] w fun e w' => e = .returned (.bool (mOk m a b s)) ∧ Below w.heap.size w w' := by
  cases q1 : inB a 0 m
  case false =>
    have HE : Hid (mOk m a b s = false) := by unfold Hid; rw [mOk, q1]; rfl
    go_enter Try.func27, Try.ntmps27
    go_wp2_with (go_at_call 16; refine (between_any _ _ _ _).mono ?_; rintro e w_ ⟨rfl, rfl⟩)
    all_goals (try (go_quiet ((go_at_call 16; exact quiet_left (between_any _ _ _ _))); go_wp2_with fail))
    go_ret
    exact ⟨by rw [HE.out]; rfl, by (repeat' (first | (with_reducible exact Below.refl _ _) | (with_reducible assumption) | (with_reducible refine Below.alloc ?_ ?_ _) | (with_reducible refine Below.drew ?_) | (with_reducible refine belowDrewN ?_ _) | (with_reducible refine Below.setCell ?_ ?_ _) | (with_reducible refine Below.via (by with_reducible assumption) ?_ ?_) | (with_reducible refine Below.viaD (by with_reducible assumption) ?_ ?_) | (with_reducible exact Below.size (by with_reducible assumption)) | go_size | (with_reducible refine Nat.le_trans ?_ (Below.size (by with_reducible assumption))) | (with_reducible refine Nat.le_trans ?_ (sizeAlloc _ _)) | (with_reducible refine Nat.le_trans ?_ (sizeSet _ _ _)) | (with_reducible refine Nat.le_trans ?_ (sizeDrew _))))⟩
  case true =>
    cases q2 : inB b 0 m
    case false =>
      have HE : Hid (mOk m a b s = false) := by unfold Hid; rw [mOk, q1, q2]; rfl
      go_enter Try.func27, Try.ntmps27
      go_wp2_with (go_at_call 16; refine (between_any _ _ _ _).mono ?_; rintro e w_ ⟨rfl, rfl⟩)
      all_goals (try (go_quiet ((go_at_call 16; exact quiet_left (between_any _ _ _ _))); go_wp2_with fail))
      go_ret
      exact ⟨by rw [HE.out]; rfl, by (repeat' (first | (with_reducible exact Below.refl _ _) | (with_reducible assumption) | (with_reducible refine Below.alloc ?_ ?_ _) | (with_reducible refine Below.drew ?_) | (with_reducible refine belowDrewN ?_ _) | (with_reducible refine Below.setCell ?_ ?_ _) | (with_reducible refine Below.via (by with_reducible assumption) ?_ ?_) | (with_reducible refine Below.viaD (by with_reducible assumption) ?_ ?_) | (with_reducible exact Below.size (by with_reducible assumption)) | go_size | (with_reducible refine Nat.le_trans ?_ (Below.size (by with_reducible assumption))) | (with_reducible refine Nat.le_trans ?_ (sizeAlloc _ _)) | (with_reducible refine Nat.le_trans ?_ (sizeSet _ _ _)) | (with_reducible refine Nat.le_trans ?_ (sizeDrew _))))⟩
    case true =>
      cases q3 : (a == b)
      case true =>
        have HE : Hid (mOk m a b s = false) := by unfold Hid; rw [mOk, q1, q2, q3]; rfl
        have q4 : (a != b) = false := by rw [bne, q3]; rfl
        go_enter Try.func27, Try.ntmps27
        go_wp2_with (go_at_call 16; refine (between_any _ _ _ _).mono ?_; rintro e w_ ⟨rfl, rfl⟩)
        all_goals (try (go_quiet ((go_at_call 16; exact quiet_left (between_any _ _ _ _))); go_wp2_with fail))
        go_ret
        exact ⟨by rw [HE.out]; rfl, by (repeat' (first | (with_reducible exact Below.refl _ _) | (with_reducible assumption) | (with_reducible refine Below.alloc ?_ ?_ _) | (with_reducible refine Below.drew ?_) | (with_reducible refine belowDrewN ?_ _) | (with_reducible refine Below.setCell ?_ ?_ _) | (with_reducible refine Below.via (by with_reducible assumption) ?_ ?_) | (with_reducible refine Below.viaD (by with_reducible assumption) ?_ ?_) | (with_reducible exact Below.size (by with_reducible assumption)) | go_size | (with_reducible refine Nat.le_trans ?_ (Below.size (by with_reducible assumption))) | (with_reducible refine Nat.le_trans ?_ (sizeAlloc _ _)) | (with_reducible refine Nat.le_trans ?_ (sizeSet _ _ _)) | (with_reducible refine Nat.le_trans ?_ (sizeDrew _))))⟩
      case false =>
        have HE : Hid (mOk m a b s = inB s 0 2) := by unfold Hid; rw [mOk, q1, q2, q3]; rfl
        have q4 : (a != b) = true := by rw [bne, q3]; rfl
        go_enter Try.func27, Try.ntmps27
        go_wp2_with (go_at_call 16; refine (between_any _ _ _ _).mono ?_; rintro e w_ ⟨rfl, rfl⟩)
        all_goals (try (go_quiet ((go_at_call 16; exact quiet_left (between_any _ _ _ _))); go_wp2_with fail))
        go_ret
        exact ⟨by rw [HE.out]; rfl, by (repeat' (first | (with_reducible exact Below.refl _ _) | (with_reducible assumption) | (with_reducible refine Below.alloc ?_ ?_ _) | (with_reducible refine Below.drew ?_) | (with_reducible refine belowDrewN ?_ _) | (with_reducible refine Below.setCell ?_ ?_ _) | (with_reducible refine Below.via (by with_reducible assumption) ?_ ?_) | (with_reducible refine Below.viaD (by with_reducible assumption) ?_ ?_) | (with_reducible exact Below.size (by with_reducible assumption)) | go_size | (with_reducible refine Nat.le_trans ?_ (Below.size (by with_reducible assumption))) | (with_reducible refine Nat.le_trans ?_ (sizeAlloc _ _)) | (with_reducible refine Nat.le_trans ?_ (sizeSet _ _ _)) | (with_reducible refine Nat.le_trans ?_ (sizeDrew _))))⟩
def okAt (m : Int) (vs : List Value) (k : Nat) : Bool := mOk m (intAt vs (k * 4)) (intAt vs (k * 4 + 1)) (intAt vs (k * 4 + 2))
def validMs (n : Int) (vs : List Value) : Bool := inB n 2 12 && decide (vs.length ≤ 600) && (List.range (vs.length / 4)).all (okAt (wrap64 (n - 1)) vs)
theorem validMs_n {n : Int} {vs : List Value} (h : inB n 2 12 = false) : validMs n vs = false := by rw [validMs, h]; rfl
theorem validMs_len {n : Int} {vs : List Value} (h : 600 < vs.length) : validMs n vs = false := by
  rw [validMs, decide_eq_false (by omega), Bool.and_false]; rfl
theorem validMs_at {n : Int} {vs : List Value} {k : Nat} (hk : k < vs.length / 4) (h : okAt (wrap64 (n - 1)) vs k = false) : validMs n vs = false := by
  rw [validMs]
  have : (List.range (vs.length / 4)).all (okAt (wrap64 (n - 1)) vs) = false := by
    rw [List.all_eq_false]
    exact ⟨k, List.mem_range.2 hk, by simp [h]⟩
  rw [this, Bool.and_false]
theorem validMs_t {n : Int} {vs : List Value} {c : Nat} (hl : vs.length = c * 4) (hc : c ≤ 150) (hn : inB n 2 12 = true) (h : ∀ k, k < c → okAt (wrap64 (n - 1)) vs k = true) : validMs n vs = true := by
  have : (List.range (vs.length / 4)).all (okAt (wrap64 (n - 1)) vs) = true := by
    rw [List.all_eq_true]
    intro k hk
    exact h k (by rw [List.mem_range] at hk; omega)
  rw [validMs, this, hn, decide_eq_true (by omega)]; rfl
end Go.Proofs.Ytlogcbiebpfmlaa
