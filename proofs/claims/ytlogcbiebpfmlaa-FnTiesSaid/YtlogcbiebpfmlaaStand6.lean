/- Standings: ranks, by both functions. Conditions: bounds. -/
import Derived.Test.YtlogcbiebpfmlaaStand5
namespace Go.Proofs.Ytlogcbiebpfmlaa
set_option linter.unusedSimpArgs false
set_option linter.unusedVariables false
open Go.RowKit

def btV (a1 a4 a5 a2 b1 b4 b5 b2 : Int) : Bool := if a1 ≠ b1 then decide (b1 < a1) else if a4 ≠ b4 then decide (b4 < a4) else if a5 ≠ b5 then decide (b5 < a5) else decide (b2 < a2)
def cmV (a1 a4 a5 a2 b1 b4 b5 b2 : Int) : Int := if a1 ≠ b1 then a1 - b1 else if a4 ≠ b4 then a4 - b4 else if a5 ≠ b5 then a5 - b5 else a2 - b2
theorem cm_bt (a1 a4 a5 a2 b1 b4 b5 b2 : Int) : decide (0 < cmV a1 a4 a5 a2 b1 b4 b5 b2) = btV a1 a4 a5 a2 b1 b4 b5 b2 := by
  unfold cmV btV
  repeat' split
  all_goals
    rw [decide_eq_decide]
    omega
set_option maxRecDepth 100000 in
set_option maxHeartbeats 2000000 in
theorem better_any (a0 a1 a2 a3 a4 a5 b0 b1 b2 b3 b4 b5 : Int) (q : Bool) (w : World) (hq : btV a1 a4 a5 a2 b1 b4 b5 b2 = q) :
    Calls Try.prog 29 #[.agg #[.int .i64 a0, .int .i64 a1, .int .i64 a2, .int .i64 a3, .int .i64 a4, .int .i64 a5], .agg #[.int .i64 b0, .int .i64 b1, .int .i64 b2, .int .i64 b3, .int .i64 b4, .int .i64 b5]] w fun e w' => e = .returned (.bool q) ∧ Below w.heap.size w w' := by
  by_cases h1 : a1 = b1
  case neg =>
    have e1 : (a1 != b1) = true := by rw [bne, beq_eq_false_iff_ne.2 h1]; rfl
    have HQ : Hid (decide (b1 < a1) = q) := by unfold Hid; rw [← hq, btV, if_pos h1]
    clear hq h1
    by_cases g : b1 < a1
    all_goals
      go_enter Try.func29, Try.ntmps29
      go_wp2_with fail
      go_ret
      exact ⟨by rw [← HQ.out]; simp [g], by (repeat' (first | (with_reducible exact Below.refl _ _) | (with_reducible assumption) | (with_reducible refine Below.alloc ?_ ?_ _) | (with_reducible refine Below.drew ?_) | (with_reducible refine belowDrewN ?_ _) | (with_reducible refine Below.setCell ?_ ?_ _) | (with_reducible refine Below.via (by with_reducible assumption) ?_ ?_) | (with_reducible refine Below.viaD (by with_reducible assumption) ?_ ?_) | (with_reducible exact Below.size (by with_reducible assumption)) | go_size | (with_reducible refine Nat.le_trans ?_ (Below.size (by with_reducible assumption))) | (with_reducible refine Nat.le_trans ?_ (sizeAlloc _ _)) | (with_reducible refine Nat.le_trans ?_ (sizeSet _ _ _)) | (with_reducible refine Nat.le_trans ?_ (sizeDrew _))))⟩
  case pos =>
    subst h1
    by_cases h4 : a4 = b4
    case neg =>
      have e4 : (a4 != b4) = true := by rw [bne, beq_eq_false_iff_ne.2 h4]; rfl
      have HQ : Hid (decide (b4 < a4) = q) := by unfold Hid; rw [← hq, btV, if_neg (by simp), if_pos h4]
      clear hq h4
      by_cases g : b4 < a4
      all_goals
        go_enter Try.func29, Try.ntmps29
        go_wp2_with fail
        go_ret
        exact ⟨by rw [← HQ.out]; simp [g], by (repeat' (first | (with_reducible exact Below.refl _ _) | (with_reducible assumption) | (with_reducible refine Below.alloc ?_ ?_ _) | (with_reducible refine Below.drew ?_) | (with_reducible refine belowDrewN ?_ _) | (with_reducible refine Below.setCell ?_ ?_ _) | (with_reducible refine Below.via (by with_reducible assumption) ?_ ?_) | (with_reducible refine Below.viaD (by with_reducible assumption) ?_ ?_) | (with_reducible exact Below.size (by with_reducible assumption)) | go_size | (with_reducible refine Nat.le_trans ?_ (Below.size (by with_reducible assumption))) | (with_reducible refine Nat.le_trans ?_ (sizeAlloc _ _)) | (with_reducible refine Nat.le_trans ?_ (sizeSet _ _ _)) | (with_reducible refine Nat.le_trans ?_ (sizeDrew _))))⟩
    case pos =>
      subst h4
      by_cases h5 : a5 = b5
      case neg =>
        have e5 : (a5 != b5) = true := by rw [bne, beq_eq_false_iff_ne.2 h5]; rfl
        have HQ : Hid (decide (b5 < a5) = q) := by unfold Hid; rw [← hq, btV, if_neg (by simp), if_neg (by simp), if_pos h5]
        clear hq h5
        by_cases g : b5 < a5
        all_goals
          go_enter Try.func29, Try.ntmps29
          go_wp2_with fail
          go_ret
          exact ⟨by rw [← HQ.out]; simp [g], by (repeat' (first | (with_reducible exact Below.refl _ _) | (with_reducible assumption) | (with_reducible refine Below.alloc ?_ ?_ _) | (with_reducible refine Below.drew ?_) | (with_reducible refine belowDrewN ?_ _) | (with_reducible refine Below.setCell ?_ ?_ _) | (with_reducible refine Below.via (by with_reducible assumption) ?_ ?_) | (with_reducible refine Below.viaD (by with_reducible assumption) ?_ ?_) | (with_reducible exact Below.size (by with_reducible assumption)) | go_size | (with_reducible refine Nat.le_trans ?_ (Below.size (by with_reducible assumption))) | (with_reducible refine Nat.le_trans ?_ (sizeAlloc _ _)) | (with_reducible refine Nat.le_trans ?_ (sizeSet _ _ _)) | (with_reducible refine Nat.le_trans ?_ (sizeDrew _))))⟩
      case pos =>
        subst h5
        have HQ : Hid (decide (b2 < a2) = q) := by unfold Hid; rw [← hq, btV, if_neg (by simp), if_neg (by simp), if_neg (by simp)]
        clear hq
        by_cases g : b2 < a2
        all_goals
          go_enter Try.func29, Try.ntmps29
          go_wp2_with fail
          go_ret
          exact ⟨by rw [← HQ.out]; simp [g], by (repeat' (first | (with_reducible exact Below.refl _ _) | (with_reducible assumption) | (with_reducible refine Below.alloc ?_ ?_ _) | (with_reducible refine Below.drew ?_) | (with_reducible refine belowDrewN ?_ _) | (with_reducible refine Below.setCell ?_ ?_ _) | (with_reducible refine Below.via (by with_reducible assumption) ?_ ?_) | (with_reducible refine Below.viaD (by with_reducible assumption) ?_ ?_) | (with_reducible exact Below.size (by with_reducible assumption)) | go_size | (with_reducible refine Nat.le_trans ?_ (Below.size (by with_reducible assumption))) | (with_reducible refine Nat.le_trans ?_ (sizeAlloc _ _)) | (with_reducible refine Nat.le_trans ?_ (sizeSet _ _ _)) | (with_reducible refine Nat.le_trans ?_ (sizeDrew _))))⟩
set_option maxRecDepth 100000 in
set_option maxHeartbeats 2000000 in
theorem l26Compare_any (g pa pb : Nat) (a1 a2 a4 a5 b1 b2 b4 b5 v : Int) (w : World) (x1 : w.cell? ⟨g, pa + 1, none⟩ = some (.int .i64 a1)) (x2 : w.cell? ⟨g, pa + 2, none⟩ = some (.int .i64 a2)) (x4 : w.cell? ⟨g, pa + 4, none⟩ = some (.int .i64 a4)) (x5 : w.cell? ⟨g, pa + 5, none⟩ = some (.int .i64 a5)) (y1 : w.cell? ⟨g, pb + 1, none⟩ = some (.int .i64 b1)) (y2 : w.cell? ⟨g, pb + 2, none⟩ = some (.int .i64 b2)) (y4 : w.cell? ⟨g, pb + 4, none⟩ = some (.int .i64 b4)) (y5 : w.cell? ⟨g, pb + 5, none⟩ = some (.int .i64 b5))
    (l1 : 0 ≤ a1 ∧ a1 ≤ 1000000000) (l2 : 0 ≤ a2 ∧ a2 ≤ 1000000000) (l4 : 0 ≤ a4 ∧ a4 ≤ 1000000000) (l5 : 0 ≤ a5 ∧ a5 ≤ 1000000000) (k1 : 0 ≤ b1 ∧ b1 ≤ 1000000000) (k2 : 0 ≤ b2 ∧ b2 ≤ 1000000000) (k4 : 0 ≤ b4 ∧ b4 ≤ 1000000000) (k5 : 0 ≤ b5 ∧ b5 ≤ 1000000000) (hq : cmV a1 a4 a5 a2 b1 b4 b5 b2 = v) :
    Calls Try.prog 33 #[.pointer (some ⟨g, pa, none⟩), .pointer (some ⟨g, pb, none⟩)] w fun e w' => e = .returned (.int .i64 v) ∧ ∃ m, w' = w.drewN m := by
  have w1 : IntKind.i64.wrap (a1 - b1) = a1 - b1 := IntWalk.i64_in _ (by omega)
  have w2 : IntKind.i64.wrap (a2 - b2) = a2 - b2 := IntWalk.i64_in _ (by omega)
  have w4 : IntKind.i64.wrap (a4 - b4) = a4 - b4 := IntWalk.i64_in _ (by omega)
  have w5 : IntKind.i64.wrap (a5 - b5) = a5 - b5 := IntWalk.i64_in _ (by omega)
  by_cases h1 : a1 = b1
  case neg =>
    have e1 : (a1 != b1) = true := by rw [bne, beq_eq_false_iff_ne.2 h1]; rfl
    have HQ : Hid (a1 - b1 = v) := by unfold Hid; rw [← hq, cmV, if_pos h1]
    clear hq h1
    go_enter Try.func33, Try.ntmps33
    go_wp2_with fail
    first | (refine wp_region_quiet_lit (by kernel_rfl) (by kernel_rfl) ?_; refine WQ.of ?_; (repeat (refine WQ.step (fun K hK => ?_); go_simp; first | (refine hK _ ?_; clear hK K) | (apply Exists.intro; refine ⟨fun _ => ?_, hK _ ?_⟩; (fail); clear hK K))); refine WQ.nil ?_; intro _ hw'; obtain ⟨nq, hw''⟩ := hw'; subst hw'') | go_quiet (fail)
    go_wp2_with fail
    first | (refine wp_region_quiet_lit (by kernel_rfl) (by kernel_rfl) ?_; refine WQ.of ?_; (repeat (refine WQ.step (fun K hK => ?_); go_simp; first | (refine hK _ ?_; clear hK K) | (apply Exists.intro; refine ⟨fun _ => ?_, hK _ ?_⟩; (fail); clear hK K))); refine WQ.nil ?_; intro _ hw'; obtain ⟨nq, hw''⟩ := hw'; subst hw'') | go_quiet (fail)
    go_wp2_with fail
    go_ret
    exact ⟨by rw [← HQ.out]; rfl, by first | exact ⟨_, rfl⟩ | (simp only [World.drewN_drewN]; exact ⟨_, rfl⟩)⟩
  case pos =>
    subst h1
    by_cases h4 : a4 = b4
    case neg =>
      have e4 : (a4 != b4) = true := by rw [bne, beq_eq_false_iff_ne.2 h4]; rfl
      have HQ : Hid (a4 - b4 = v) := by unfold Hid; rw [← hq, cmV, if_neg (by simp), if_pos h4]
      clear hq h4
      go_enter Try.func33, Try.ntmps33
      go_wp2_with fail
      first | (refine wp_region_quiet_lit (by kernel_rfl) (by kernel_rfl) ?_; refine WQ.of ?_; (repeat (refine WQ.step (fun K hK => ?_); go_simp; first | (refine hK _ ?_; clear hK K) | (apply Exists.intro; refine ⟨fun _ => ?_, hK _ ?_⟩; (fail); clear hK K))); refine WQ.nil ?_; intro _ hw'; obtain ⟨nq, hw''⟩ := hw'; subst hw'') | go_quiet (fail)
      go_wp2_with fail
      first | (refine wp_region_quiet_lit (by kernel_rfl) (by kernel_rfl) ?_; refine WQ.of ?_; (repeat (refine WQ.step (fun K hK => ?_); go_simp; first | (refine hK _ ?_; clear hK K) | (apply Exists.intro; refine ⟨fun _ => ?_, hK _ ?_⟩; (fail); clear hK K))); refine WQ.nil ?_; intro _ hw'; obtain ⟨nq, hw''⟩ := hw'; subst hw'') | go_quiet (fail)
      go_wp2_with fail
      first | (refine wp_region_quiet_lit (by kernel_rfl) (by kernel_rfl) ?_; refine WQ.of ?_; (repeat (refine WQ.step (fun K hK => ?_); go_simp; first | (refine hK _ ?_; clear hK K) | (apply Exists.intro; refine ⟨fun _ => ?_, hK _ ?_⟩; (fail); clear hK K))); refine WQ.nil ?_; intro _ hw'; obtain ⟨nq, hw''⟩ := hw'; subst hw'') | go_quiet (fail)
      go_wp2_with fail
      go_ret
      exact ⟨by rw [← HQ.out]; rfl, by first | exact ⟨_, rfl⟩ | (simp only [World.drewN_drewN]; exact ⟨_, rfl⟩)⟩
    case pos =>
      subst h4
      by_cases h5 : a5 = b5
      case neg =>
        have e5 : (a5 != b5) = true := by rw [bne, beq_eq_false_iff_ne.2 h5]; rfl
        have HQ : Hid (a5 - b5 = v) := by unfold Hid; rw [← hq, cmV, if_neg (by simp), if_neg (by simp), if_pos h5]
        clear hq h5
        go_enter Try.func33, Try.ntmps33
        go_wp2_with fail
        first | (refine wp_region_quiet_lit (by kernel_rfl) (by kernel_rfl) ?_; refine WQ.of ?_; (repeat (refine WQ.step (fun K hK => ?_); go_simp; first | (refine hK _ ?_; clear hK K) | (apply Exists.intro; refine ⟨fun _ => ?_, hK _ ?_⟩; (fail); clear hK K))); refine WQ.nil ?_; intro _ hw'; obtain ⟨nq, hw''⟩ := hw'; subst hw'') | go_quiet (fail)
        go_wp2_with fail
        first | (refine wp_region_quiet_lit (by kernel_rfl) (by kernel_rfl) ?_; refine WQ.of ?_; (repeat (refine WQ.step (fun K hK => ?_); go_simp; first | (refine hK _ ?_; clear hK K) | (apply Exists.intro; refine ⟨fun _ => ?_, hK _ ?_⟩; (fail); clear hK K))); refine WQ.nil ?_; intro _ hw'; obtain ⟨nq, hw''⟩ := hw'; subst hw'') | go_quiet (fail)
        go_wp2_with fail
        first | (refine wp_region_quiet_lit (by kernel_rfl) (by kernel_rfl) ?_; refine WQ.of ?_; (repeat (refine WQ.step (fun K hK => ?_); go_simp; first | (refine hK _ ?_; clear hK K) | (apply Exists.intro; refine ⟨fun _ => ?_, hK _ ?_⟩; (fail); clear hK K))); refine WQ.nil ?_; intro _ hw'; obtain ⟨nq, hw''⟩ := hw'; subst hw'') | go_quiet (fail)
        go_wp2_with fail
        first | (refine wp_region_quiet_lit (by kernel_rfl) (by kernel_rfl) ?_; refine WQ.of ?_; (repeat (refine WQ.step (fun K hK => ?_); go_simp; first | (refine hK _ ?_; clear hK K) | (apply Exists.intro; refine ⟨fun _ => ?_, hK _ ?_⟩; (fail); clear hK K))); refine WQ.nil ?_; intro _ hw'; obtain ⟨nq, hw''⟩ := hw'; subst hw'') | go_quiet (fail)
        go_wp2_with fail
        go_ret
        exact ⟨by rw [← HQ.out]; rfl, by first | exact ⟨_, rfl⟩ | (simp only [World.drewN_drewN]; exact ⟨_, rfl⟩)⟩
      case pos =>
        subst h5
        have HQ : Hid (a2 - b2 = v) := by unfold Hid; rw [← hq, cmV, if_neg (by simp), if_neg (by simp), if_neg (by simp)]
        clear hq
        go_enter Try.func33, Try.ntmps33
        go_wp2_with fail
        first | (refine wp_region_quiet_lit (by kernel_rfl) (by kernel_rfl) ?_; refine WQ.of ?_; (repeat (refine WQ.step (fun K hK => ?_); go_simp; first | (refine hK _ ?_; clear hK K) | (apply Exists.intro; refine ⟨fun _ => ?_, hK _ ?_⟩; (fail); clear hK K))); refine WQ.nil ?_; intro _ hw'; obtain ⟨nq, hw''⟩ := hw'; subst hw'') | go_quiet (fail)
        go_wp2_with fail
        first | (refine wp_region_quiet_lit (by kernel_rfl) (by kernel_rfl) ?_; refine WQ.of ?_; (repeat (refine WQ.step (fun K hK => ?_); go_simp; first | (refine hK _ ?_; clear hK K) | (apply Exists.intro; refine ⟨fun _ => ?_, hK _ ?_⟩; (fail); clear hK K))); refine WQ.nil ?_; intro _ hw'; obtain ⟨nq, hw''⟩ := hw'; subst hw'') | go_quiet (fail)
        go_wp2_with fail
        first | (refine wp_region_quiet_lit (by kernel_rfl) (by kernel_rfl) ?_; refine WQ.of ?_; (repeat (refine WQ.step (fun K hK => ?_); go_simp; first | (refine hK _ ?_; clear hK K) | (apply Exists.intro; refine ⟨fun _ => ?_, hK _ ?_⟩; (fail); clear hK K))); refine WQ.nil ?_; intro _ hw'; obtain ⟨nq, hw''⟩ := hw'; subst hw'') | go_quiet (fail)
        go_wp2_with fail
        first | (refine wp_region_quiet_lit (by kernel_rfl) (by kernel_rfl) ?_; refine WQ.of ?_; (repeat (refine WQ.step (fun K hK => ?_); go_simp; first | (refine hK _ ?_; clear hK K) | (apply Exists.intro; refine ⟨fun _ => ?_, hK _ ?_⟩; (fail); clear hK K))); refine WQ.nil ?_; intro _ hw'; obtain ⟨nq, hw''⟩ := hw'; subst hw'') | go_quiet (fail)
        go_wp2_with fail
        go_ret
        exact ⟨by rw [← HQ.out]; rfl, by first | exact ⟨_, rfl⟩ | (simp only [World.drewN_drewN]; exact ⟨_, rfl⟩)⟩
end Go.Proofs.Ytlogcbiebpfmlaa
