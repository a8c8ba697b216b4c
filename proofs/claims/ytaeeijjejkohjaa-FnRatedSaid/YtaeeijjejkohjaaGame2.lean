/- RateGame of the reference. No conditions. -/
import Derived.Test.YtaeeijjejkohjaaGame1
namespace Go.Proofs.Ytaeeijjejkohjaa
set_option linter.unusedSimpArgs false
set_option linter.unusedVariables false
open Go.RowKit

theorem l25Ok_lit (a b : Int) (w : World) : Calls Try.prog 38 #[.agg #[.int .i64 a, .int .i64 b]] w fun e w' => e = .returned (.bool (validB a b)) ∧ w' = w.alloc (.cells #[.int .i64 a, .int .i64 b] 24) := by
  obtain ⟨q, hq⟩ : ∃ q, validB a b = q := ⟨_, rfl⟩
  have HQ := Lib.hid hq
  clear hq
  rw [HQ.out]
  go_enter Try.func38, Try.ntmps38
  go_wp2_with (first | (go_at_call 50; refine (l25Rating_any _ _).mono ?_; rintro e w_ ⟨rfl, rfl⟩) | (go_at_call 39; refine (l00In_any _ _ _ _).mono ?_; rintro e w_ ⟨rfl, rfl⟩))
  all_goals
    have h1 := HQ.out
    simp only [validB] at h1
    go_ret
    subst h1
    exact ⟨by simp [*], rfl⟩
set_option maxHeartbeats 4000000 in
theorem sRateGame_any (a0 b0 a1 b1 sc x0 x1 x2 x3 code : Int) (hr : rgR a0 b0 a1 b1 sc = ((x0, x1, x2, x3), code)) (w : World) :
    Calls Try.prog 7 #[.agg #[.int .i64 a0, .int .i64 b0], .agg #[.int .i64 a1, .int .i64 b1], .int .i64 sc] w fun e w' => e = .returned (.tuple #[.agg #[.int .i64 x0, .int .i64 x1], .agg #[.int .i64 x2, .int .i64 x3], .int .i64 code]) ∧ Below w.heap.size w w' := by
  unfold rgR at hr
  cases q1 : validB a0 b0
  case false =>
    rw [q1, Bool.false_and, if_neg (by simp)] at hr
    obtain ⟨rfl, rfl, rfl, rfl, rfl⟩ := quint hr
    clear hr
    go_enter Try.func7, Try.ntmps7
    go_wp2_with (go_at_call 38; refine (l25Ok_lit _ _ _).mono ?_; rintro e w_ ⟨rfl, rfl⟩)
    all_goals
      go_returns
      exact ⟨rfl, by (repeat' (first | (with_reducible exact Below.refl _ _) | (with_reducible assumption) | (with_reducible refine Below.alloc ?_ ?_ _) | (with_reducible refine Below.drew ?_) | (with_reducible refine belowDrewN ?_ _) | (with_reducible refine Below.setCell ?_ ?_ _) | (with_reducible refine Below.via (by with_reducible assumption) ?_ ?_) | (with_reducible refine Below.viaD (by with_reducible assumption) ?_ ?_) | (with_reducible exact Below.size (by with_reducible assumption)) | go_size | (with_reducible refine Nat.le_trans ?_ (Below.size (by with_reducible assumption))) | (with_reducible refine Nat.le_trans ?_ (sizeAlloc _ _)) | (with_reducible refine Nat.le_trans ?_ (sizeSet _ _ _)) | (with_reducible refine Nat.le_trans ?_ (sizeDrew _))))⟩
  case true =>
    cases q2 : validB a1 b1
    case false =>
      rw [q1, q2, Bool.and_false, if_neg (by simp)] at hr
      obtain ⟨rfl, rfl, rfl, rfl, rfl⟩ := quint hr
      clear hr
      go_enter Try.func7, Try.ntmps7
      go_wp2_with (go_at_call 38; refine (l25Ok_lit _ _ _).mono ?_; rintro e w_ ⟨rfl, rfl⟩)
      all_goals
        go_returns
        exact ⟨rfl, by (repeat' (first | (with_reducible exact Below.refl _ _) | (with_reducible assumption) | (with_reducible refine Below.alloc ?_ ?_ _) | (with_reducible refine Below.drew ?_) | (with_reducible refine belowDrewN ?_ _) | (with_reducible refine Below.setCell ?_ ?_ _) | (with_reducible refine Below.via (by with_reducible assumption) ?_ ?_) | (with_reducible refine Below.viaD (by with_reducible assumption) ?_ ?_) | (with_reducible exact Below.size (by with_reducible assumption)) | go_size | (with_reducible refine Nat.le_trans ?_ (Below.size (by with_reducible assumption))) | (with_reducible refine Nat.le_trans ?_ (sizeAlloc _ _)) | (with_reducible refine Nat.le_trans ?_ (sizeSet _ _ _)) | (with_reducible refine Nat.le_trans ?_ (sizeDrew _))))⟩
    case true =>
      cases q3 : inB sc 0 2
      case false =>
        rw [q1, q2, q3, Bool.and_true, if_pos rfl, if_neg (by simp)] at hr
        obtain ⟨rfl, rfl, rfl, rfl, rfl⟩ := quint hr
        clear hr
        go_enter Try.func7, Try.ntmps7
        go_wp2_with (first | (go_at_call 38; refine (l25Ok_lit _ _ _).mono ?_; rintro e w_ ⟨rfl, rfl⟩) | (go_at_call 39; refine (l00In_any _ _ _ _).mono ?_; rintro e w_ ⟨rfl, rfl⟩))
        all_goals
          go_returns
          exact ⟨rfl, by (repeat' (first | (with_reducible exact Below.refl _ _) | (with_reducible assumption) | (with_reducible refine Below.alloc ?_ ?_ _) | (with_reducible refine Below.drew ?_) | (with_reducible refine belowDrewN ?_ _) | (with_reducible refine Below.setCell ?_ ?_ _) | (with_reducible refine Below.via (by with_reducible assumption) ?_ ?_) | (with_reducible refine Below.viaD (by with_reducible assumption) ?_ ?_) | (with_reducible exact Below.size (by with_reducible assumption)) | go_size | (with_reducible refine Nat.le_trans ?_ (Below.size (by with_reducible assumption))) | (with_reducible refine Nat.le_trans ?_ (sizeAlloc _ _)) | (with_reducible refine Nat.le_trans ?_ (sizeSet _ _ _)) | (with_reducible refine Nat.le_trans ?_ (sizeDrew _))))⟩
      case true =>
        obtain ⟨v1, v2, v3, v4⟩ := validB_of q1
        obtain ⟨v5, v6, v7, v8⟩ := validB_of q2
        obtain ⟨v9, v10⟩ := inB_of q3
        rw [q1, q2, q3, Bool.and_true, if_pos rfl, if_pos rfl] at hr
        have HCE := Lib.hid (fun w => l25Expected_any (a0 - a1) (by omega) (by omega) w)
        obtain ⟨y1, y2⟩ := expE_bd (a0 - a1)
        revert HCE y1 y2 hr
        generalize expE (a0 - a1) = ex
        intro hr HCE y1 y2
        obtain ⟨e0, e1, e2, e3, rfl⟩ := quint hr
        have HM0 : Hid (∀ w, Calls Try.prog 41 #[.agg #[.int .i64 a0, .int .i64 b0], .int .i64 (500 * sc - ex), .int .i64 1] w fun e w' => e = .returned (.agg #[.int .i64 x0, .int .i64 x1]) ∧ Below w.heap.size w w') := fun w => by
          have h := l25Move_any a0 b0 (500 * sc - ex) 1 v1 v2 v3 v4 (by omega) (by omega) (by omega) (by omega) w
          rwa [e0, e1] at h
        have HM1 : Hid (∀ w, Calls Try.prog 41 #[.agg #[.int .i64 a1, .int .i64 b1], .int .i64 (-(500 * sc - ex)), .int .i64 1] w fun e w' => e = .returned (.agg #[.int .i64 x2, .int .i64 x3]) ∧ Below w.heap.size w w') := fun w => by
          have h := l25Move_any a1 b1 (-(500 * sc - ex)) 1 v5 v6 v7 v8 (by omega) (by omega) (by omega) (by omega) w
          rwa [e2, e3] at h
        have hw1 : IntKind.i64.wrap (-(500 * sc - ex)) = -(500 * sc - ex) := IntWalk.i64_in _ (by omega)
        clear hr e0 e1 e2 e3
        go_enter Try.func7, Try.ntmps7
        go_wp2_with (first | (go_at_call 38; refine (l25Ok_lit _ _ _).mono ?_; rintro e w_ ⟨rfl, rfl⟩) | (go_at_call 39; refine (l00In_any _ _ _ _).mono ?_; rintro e w_ ⟨rfl, rfl⟩))
        refine (HCE.out _).mono ?_
        rintro e w5 ⟨rfl, hb5⟩
        have k3 : Blk w5 w.heap.size 24 #[.int .i64 a0, .int .i64 b0] := Blk.later (Blk.later (Blk.later (Blk.later (Blk.later (Blk.later (Blk.new' (by simp)) (boxed2' _ _)) (boxed2' _ _)) (boxed2' _ _)) (boxed2' _ _)) (boxed2' _ _)) hb5
        have k4 : Blk w5 (w.heap.size + 1) 24 #[.int .i64 a1, .int .i64 b1] := Blk.later (Blk.later (Blk.later (Blk.later (Blk.later (Blk.new' (by simp)) (boxed2' _ _)) (boxed2' _ _)) (boxed2' _ _)) (boxed2' _ _)) hb5
        have k6 : Blk w5 (w.heap.size + 1 + 1) 24 #[.int .i64 0, .int .i64 0] := Blk.later (Blk.later (Blk.later (Blk.later (Blk.new' (by simp)) (boxed2' _ _)) (boxed2' _ _)) (boxed2' _ _)) hb5
        have k7 : Blk w5 (w.heap.size + 1 + 1 + 1) 24 #[.int .i64 0, .int .i64 0] := Blk.later (Blk.later (Blk.later (Blk.new' (by simp)) (boxed2' _ _)) (boxed2' _ _)) hb5
        have B5 : Below w.heap.size w w5 := by (repeat' (first | (with_reducible exact Below.refl _ _) | (with_reducible assumption) | (with_reducible refine Below.alloc ?_ ?_ _) | (with_reducible refine Below.drew ?_) | (with_reducible refine belowDrewN ?_ _) | (with_reducible refine Below.setCell ?_ ?_ _) | (with_reducible refine Below.via (by with_reducible assumption) ?_ ?_) | (with_reducible refine Below.viaD (by with_reducible assumption) ?_ ?_) | (with_reducible exact Below.size (by with_reducible assumption)) | go_size | (with_reducible refine Nat.le_trans ?_ (Below.size (by with_reducible assumption))) | (with_reducible refine Nat.le_trans ?_ (sizeAlloc _ _)) | (with_reducible refine Nat.le_trans ?_ (sizeSet _ _ _)) | (with_reducible refine Nat.le_trans ?_ (sizeDrew _))))
        have p30 := k3.cell 0
        have p31 := k3.cell 1
        have p40 := k4.cell 0
        have p41 := k4.cell 1
        have p60 := k6.cell 0
        have p61 := k6.cell 1
        have p70 := k7.cell 0
        have p71 := k7.cell 1
        have f60 := k6.free 0
        have f61 := k6.free 1
        have f70 := k7.free 0
        have f71 := k7.free 1
        have l3 := k3.lt
        have l4 := k4.lt
        have l6 := k6.lt
        have l7 := k7.lt
        have K6 := Lib.hid k6
        have K7 := Lib.hid k7
        clear k3 k4 k6 k7 hb5 HCE
        go_wp2_with fail
        go_region_with (first
          | (go_at_call 41; (with_reducible refine (HM0.out _).mono ?_); rintro e w6 ⟨rfl, hb6⟩; have hc6 := (bfacts hb6).1; have hf6 := (bfacts hb6).2.1; have hl6 := (bfacts hb6).2.2.1; (try simp only [World.size_alloc, World.size_setCell, World.size_drew] at hc6 hf6 hl6))
          | (go_at_call 41; (with_reducible refine (HM1.out _).mono ?_); rintro e w7 ⟨rfl, hb7⟩; have hc7 := (bfacts hb7).1; have hf7 := (bfacts hb7).2.1; have hl7 := (bfacts hb7).2.2.1; (try simp only [World.size_alloc, World.size_setCell, World.size_drew] at hc7 hf7 hl7)))
        all_goals
          go_wp2_with fail
          (try simp only [Exit.inBlock, Exit.then])
          first
          | (have B := (by (repeat' (first | (with_reducible exact Below.refl _ _) | (with_reducible assumption) | (with_reducible refine Below.alloc ?_ ?_ _) | (with_reducible refine Below.drew ?_) | (with_reducible refine belowDrewN ?_ _) | (with_reducible refine Below.setCell ?_ ?_ _) | (with_reducible refine Below.via (by with_reducible assumption) ?_ ?_) | (with_reducible refine Below.viaD (by with_reducible assumption) ?_ ?_) | (with_reducible exact Below.size (by with_reducible assumption)) | go_size | (with_reducible refine Nat.le_trans ?_ (Below.size (by with_reducible assumption))) | (with_reducible refine Nat.le_trans ?_ (sizeAlloc _ _)) | (with_reducible refine Nat.le_trans ?_ (sizeSet _ _ _)) | (with_reducible refine Nat.le_trans ?_ (sizeDrew _)))) : Below w5.heap.size w5 w7); obtain ⟨hq0, hq1, hq2, hq3⟩ := res4_cells (K6.out.later B) (K7.out.later B) (by omega); (refine bodyPost_ret (by simp [results, Try.results7, go_sem, hq0, hq1, hq2, hq3]; try rfl) rfl ?_); exact ⟨rfl, by (repeat' (first | (with_reducible exact Below.refl _ _) | (with_reducible assumption) | (with_reducible refine Below.alloc ?_ ?_ _) | (with_reducible refine Below.drew ?_) | (with_reducible refine belowDrewN ?_ _) | (with_reducible refine Below.setCell ?_ ?_ _) | (with_reducible refine Below.via (by with_reducible assumption) ?_ ?_) | (with_reducible refine Below.viaD (by with_reducible assumption) ?_ ?_) | (with_reducible exact Below.size (by with_reducible assumption)) | go_size | (with_reducible refine Nat.le_trans ?_ (Below.size (by with_reducible assumption))) | (with_reducible refine Nat.le_trans ?_ (sizeAlloc _ _)) | (with_reducible refine Nat.le_trans ?_ (sizeSet _ _ _)) | (with_reducible refine Nat.le_trans ?_ (sizeDrew _))))⟩)
          | (have B := (by (repeat' (first | (with_reducible exact Below.refl _ _) | (with_reducible assumption) | (with_reducible refine Below.alloc ?_ ?_ _) | (with_reducible refine Below.drew ?_) | (with_reducible refine belowDrewN ?_ _) | (with_reducible refine Below.setCell ?_ ?_ _) | (with_reducible refine Below.via (by with_reducible assumption) ?_ ?_) | (with_reducible refine Below.viaD (by with_reducible assumption) ?_ ?_) | (with_reducible exact Below.size (by with_reducible assumption)) | go_size | (with_reducible refine Nat.le_trans ?_ (Below.size (by with_reducible assumption))) | (with_reducible refine Nat.le_trans ?_ (sizeAlloc _ _)) | (with_reducible refine Nat.le_trans ?_ (sizeSet _ _ _)) | (with_reducible refine Nat.le_trans ?_ (sizeDrew _)))) : Below w5.heap.size w5 w6); obtain ⟨hq0, hq1, hq2, hq3⟩ := res4_cells (K6.out.later B) (K7.out.later B) (by omega); (refine bodyPost_ret (by simp [results, Try.results7, go_sem, hq0, hq1, hq2, hq3]; try rfl) rfl ?_); exact ⟨rfl, by (repeat' (first | (with_reducible exact Below.refl _ _) | (with_reducible assumption) | (with_reducible refine Below.alloc ?_ ?_ _) | (with_reducible refine Below.drew ?_) | (with_reducible refine belowDrewN ?_ _) | (with_reducible refine Below.setCell ?_ ?_ _) | (with_reducible refine Below.via (by with_reducible assumption) ?_ ?_) | (with_reducible refine Below.viaD (by with_reducible assumption) ?_ ?_) | (with_reducible exact Below.size (by with_reducible assumption)) | go_size | (with_reducible refine Nat.le_trans ?_ (Below.size (by with_reducible assumption))) | (with_reducible refine Nat.le_trans ?_ (sizeAlloc _ _)) | (with_reducible refine Nat.le_trans ?_ (sizeSet _ _ _)) | (with_reducible refine Nat.le_trans ?_ (sizeDrew _))))⟩)
end Go.Proofs.Ytaeeijjejkohjaa
