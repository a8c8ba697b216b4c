/- RateGame of the program. No conditions. -/
import Derived.Test.YtaeeijjejkohjaaRated1
namespace Go.Proofs.Ytaeeijjejkohjaa
set_option linter.unusedSimpArgs false
set_option linter.unusedVariables false
open Go.RowKit

theorem validB_of {a b : Int} (h : validB a b = true) : 0 ≤ a ∧ a ≤ 4000 ∧ 0 ≤ b ∧ b ≤ 1000000 := by
  rw [validB, Bool.and_eq_true] at h
  have h1 := inB_of h.1
  have h2 := inB_of h.2
  omega
def rgR (a0 b0 a1 b1 sc : Int) : (Int × Int × Int × Int) × Int :=
  if validB a0 b0 && validB a1 b1 then (if inB sc 0 2 then ((mvA a0 b0 (500 * sc - expE (a0 - a1)), mvB b0 1, mvA a1 b1 (-(500 * sc - expE (a0 - a1))), mvB b1 1), 0) else ((0, 0, 0, 0), 2)) else ((0, 0, 0, 0), 1)
theorem quint {x0 x1 x2 x3 c y0 y1 y2 y3 d : Int} (h : ((x0, x1, x2, x3), c) = ((y0, y1, y2, y3), d)) : x0 = y0 ∧ x1 = y1 ∧ x2 = y2 ∧ x3 = y3 ∧ c = d := by
  injection h with h1 h2
  injection h1 with h3 h4
  injection h4 with h5 h6
  injection h6 with h7 h8
  exact ⟨h3, h5, h7, h8, h2⟩
theorem ratedL_two (a0 b0 a1 b1 sc : Int) : ratedL [a0, b0, a1, b1] [0, 1, sc] 2 1 = [mvA a0 b0 (500 * sc - expE (a0 - a1)), mvB b0 1, mvA a1 b1 (-(500 * sc - expE (a0 - a1))), mvB b1 1] := by
  have e : ownG [a0, b0, a1, b1] [0, 1, sc] 0 = 500 * sc - expE (a0 - a1) := rfl
  have es : sumsL [a0, b0, a1, b1] [0, 1, sc] 2 1 = [500 * sc - expE (a0 - a1), -(500 * sc - expE (a0 - a1))] := by
    rw [sumsL, e]
    simp [sumsL, add1, ix]
  have ec : cntL [0, 1, sc] 2 1 = [1, 1] := by
    rw [cntL]
    simp [cntL, add1, ix]
  rw [ratedL, es, ec]
  rfl
theorem gok_two {a0 b0 a1 b1 sc : Int} (h1 : validB a0 b0 = true) (h2 : validB a1 b1 = true) (h3 : inB sc 0 2 = true) : GOk [a0, b0, a1, b1] [0, 1, sc] 2 1 := by
  have v1 := validB_of h1
  have v2 := validB_of h2
  have v3 := inB_of h3
  refine ⟨?_, ?_, ?_, ?_, ?_⟩
  · intro k hk; obtain rfl : k = 0 := by omega
    show (0 : Int) ≤ 0 ∧ (0 : Int) < 2
    omega
  · intro k hk; obtain rfl : k = 0 := by omega
    show (0 : Int) ≤ 1 ∧ (1 : Int) < 2
    omega
  · intro k hk; obtain rfl : k = 0 := by omega
    show (0 : Int) ≠ 1; omega
  · intro k hk; obtain rfl : k = 0 := by omega
    exact v3
  · intro i hi
    have : i = 0 ∨ i = 1 := by omega
    rcases this with rfl | rfl
    · exact ⟨v1.1, v1.2.1, v1.2.2.1, v1.2.2.2⟩
    · exact ⟨v2.1, v2.2.1, v2.2.2.1, v2.2.2.2⟩
theorem res4_cells {w1 : World} {g g' : Nat} {t : TypeId} (K : Blk w1 g t #[.int .i64 0, .int .i64 0]) (K' : Blk w1 g' t #[.int .i64 0, .int .i64 0]) (hne : g ≠ g') :
    (∀ v v' u u', ((((w1.setCell ⟨g, 0, none⟩ v).setCell ⟨g, 1, none⟩ v').setCell ⟨g', 0, none⟩ u).setCell ⟨g', 1, none⟩ u').cell? ⟨g, 0, none⟩ = some v) ∧ (∀ v v' u u', ((((w1.setCell ⟨g, 0, none⟩ v).setCell ⟨g, 1, none⟩ v').setCell ⟨g', 0, none⟩ u).setCell ⟨g', 1, none⟩ u').cell? ⟨g, 1, none⟩ = some v') ∧
    (∀ v v' u u', ((((w1.setCell ⟨g, 0, none⟩ v).setCell ⟨g, 1, none⟩ v').setCell ⟨g', 0, none⟩ u).setCell ⟨g', 1, none⟩ u').cell? ⟨g', 0, none⟩ = some u) ∧ (∀ v v' u u', ((((w1.setCell ⟨g, 0, none⟩ v).setCell ⟨g, 1, none⟩ v').setCell ⟨g', 0, none⟩ u).setCell ⟨g', 1, none⟩ u').cell? ⟨g', 1, none⟩ = some u') :=
  ⟨fun v v' u u' => ((((K.set 0 v).set 1 v').setO (p := ⟨g', 0, none⟩) u hne).setO (p := ⟨g', 1, none⟩) u' hne).cell 0, fun v v' u u' => ((((K.set 0 v).set 1 v').setO (p := ⟨g', 0, none⟩) u hne).setO (p := ⟨g', 1, none⟩) u' hne).cell 1,
   fun v v' u u' => ((((K'.setO (p := ⟨g, 0, none⟩) v hne.symm).setO (p := ⟨g, 1, none⟩) v' hne.symm).set 0 u).set 1 u').cell 0, fun v v' u u' => ((((K'.setO (p := ⟨g, 0, none⟩) v hne.symm).setO (p := ⟨g, 1, none⟩) v' hne.symm).set 0 u).set 1 u').cell 1⟩
theorem sl_two {X : World} {cs : Array Value} {t : TypeId} {o : Obj} {g n m : Nat} {zs : List Int} (hg : g = X.heap.size) (hc : cs = (zs.map (Value.int .i64)).toArray) (hl : zs.length = n * m) : Sl ((X.alloc (.cells cs t)).alloc o) ((X.alloc (.cells cs t)).alloc o).heap.size m (some ⟨g, 0, none⟩) n (zs.map (Value.int .i64)) := by
  subst hg hc
  exact (Blk.sl (rest := []) (by simpa using Blk.new X t _) hl).later (boxed2' _ _)
theorem sl_one {X : World} {cs : Array Value} {t : TypeId} {g n m : Nat} {zs : List Int} (hg : g = X.heap.size) (hc : cs = (zs.map (Value.int .i64)).toArray) (hl : zs.length = n * m) : Sl (X.alloc (.cells cs t)) (X.alloc (.cells cs t)).heap.size m (some ⟨g, 0, none⟩) n (zs.map (Value.int .i64)) := by
  subst hg hc
  exact Blk.sl (rest := []) (by simpa using Blk.new X t _) hl
theorem ValidRated_lit (a b : Int) (w : World) : Calls Try.prog 28 #[.agg #[.int .i64 a, .int .i64 b]] w fun e w' => e = .returned (.bool (validB a b)) ∧ w' = w.alloc (.cells #[.int .i64 a, .int .i64 b] 24) := by
  obtain ⟨q, hq⟩ : ∃ q, validB a b = q := ⟨_, rfl⟩
  have HQ := Lib.hid hq
  clear hq
  rw [HQ.out]
  go_enter Try.func28, Try.ntmps28
  go_wp2_with (first | (go_at_call 48; refine (isRating_any _ _).mono ?_; rintro e w_ ⟨rfl, rfl⟩) | (go_at_call 42; refine (between_any _ _ _ _).mono ?_; rintro e w_ ⟨rfl, rfl⟩))
  all_goals
    have h1 := HQ.out
    simp only [validB] at h1
    go_ret
    subst h1
    exact ⟨by simp [*], rfl⟩
set_option maxHeartbeats 2000000 in
theorem RateGame_any (a0 b0 a1 b1 sc x0 x1 x2 x3 code : Int) (hr : rgR a0 b0 a1 b1 sc = ((x0, x1, x2, x3), code)) (w : World) :
    Calls Try.prog 9 #[.agg #[.int .i64 a0, .int .i64 b0], .agg #[.int .i64 a1, .int .i64 b1], .int .i64 sc] w fun e w' => e = .returned (.tuple #[.agg #[.int .i64 x0, .int .i64 x1], .agg #[.int .i64 x2, .int .i64 x3], .int .i64 code]) ∧ Below w.heap.size w w' := by
  unfold rgR at hr
  cases q1 : validB a0 b0
  case false =>
    rw [q1, Bool.false_and, if_neg (by simp)] at hr
    obtain ⟨rfl, rfl, rfl, rfl, rfl⟩ := quint hr
    clear hr
    go_enter Try.func9, Try.ntmps9
    go_wp2_with (go_at_call 28; refine (ValidRated_lit _ _ _).mono ?_; rintro e w_ ⟨rfl, rfl⟩)
    all_goals
      go_returns
      exact ⟨rfl, by (repeat' (first | (with_reducible exact Below.refl _ _) | (with_reducible assumption) | (with_reducible refine Below.alloc ?_ ?_ _) | (with_reducible refine Below.drew ?_) | (with_reducible refine belowDrewN ?_ _) | (with_reducible refine Below.setCell ?_ ?_ _) | (with_reducible refine Below.via (by with_reducible assumption) ?_ ?_) | (with_reducible refine Below.viaD (by with_reducible assumption) ?_ ?_) | (with_reducible exact Below.size (by with_reducible assumption)) | go_size | (with_reducible refine Nat.le_trans ?_ (Below.size (by with_reducible assumption))) | (with_reducible refine Nat.le_trans ?_ (sizeAlloc _ _)) | (with_reducible refine Nat.le_trans ?_ (sizeSet _ _ _)) | (with_reducible refine Nat.le_trans ?_ (sizeDrew _))))⟩
  case true =>
    cases q2 : validB a1 b1
    case false =>
      rw [q1, q2, Bool.and_false, if_neg (by simp)] at hr
      obtain ⟨rfl, rfl, rfl, rfl, rfl⟩ := quint hr
      clear hr
      go_enter Try.func9, Try.ntmps9
      go_wp2_with (go_at_call 28; refine (ValidRated_lit _ _ _).mono ?_; rintro e w_ ⟨rfl, rfl⟩)
      all_goals
        go_returns
        exact ⟨rfl, by (repeat' (first | (with_reducible exact Below.refl _ _) | (with_reducible assumption) | (with_reducible refine Below.alloc ?_ ?_ _) | (with_reducible refine Below.drew ?_) | (with_reducible refine belowDrewN ?_ _) | (with_reducible refine Below.setCell ?_ ?_ _) | (with_reducible refine Below.via (by with_reducible assumption) ?_ ?_) | (with_reducible refine Below.viaD (by with_reducible assumption) ?_ ?_) | (with_reducible exact Below.size (by with_reducible assumption)) | go_size | (with_reducible refine Nat.le_trans ?_ (Below.size (by with_reducible assumption))) | (with_reducible refine Nat.le_trans ?_ (sizeAlloc _ _)) | (with_reducible refine Nat.le_trans ?_ (sizeSet _ _ _)) | (with_reducible refine Nat.le_trans ?_ (sizeDrew _))))⟩
    case true =>
      cases q3 : inB sc 0 2
      case false =>
        rw [q1, q2, q3, Bool.and_true, if_pos rfl, if_neg (by simp)] at hr
        obtain ⟨rfl, rfl, rfl, rfl, rfl⟩ := quint hr
        clear hr
        go_enter Try.func9, Try.ntmps9
        go_wp2_with (first | (go_at_call 28; refine (ValidRated_lit _ _ _).mono ?_; rintro e w_ ⟨rfl, rfl⟩) | (go_at_call 42; refine (between_any _ _ _ _).mono ?_; rintro e w_ ⟨rfl, rfl⟩))
        all_goals
          go_returns
          exact ⟨rfl, by (repeat' (first | (with_reducible exact Below.refl _ _) | (with_reducible assumption) | (with_reducible refine Below.alloc ?_ ?_ _) | (with_reducible refine Below.drew ?_) | (with_reducible refine belowDrewN ?_ _) | (with_reducible refine Below.setCell ?_ ?_ _) | (with_reducible refine Below.via (by with_reducible assumption) ?_ ?_) | (with_reducible refine Below.viaD (by with_reducible assumption) ?_ ?_) | (with_reducible exact Below.size (by with_reducible assumption)) | go_size | (with_reducible refine Nat.le_trans ?_ (Below.size (by with_reducible assumption))) | (with_reducible refine Nat.le_trans ?_ (sizeAlloc _ _)) | (with_reducible refine Nat.le_trans ?_ (sizeSet _ _ _)) | (with_reducible refine Nat.le_trans ?_ (sizeDrew _))))⟩
      case true =>
        have HG := Lib.hid (gok_two q1 q2 q3)
        rw [q1, q2, q3, Bool.and_true, if_pos rfl, if_pos rfl] at hr
        obtain ⟨e0, e1, e2, e3, rfl⟩ := quint hr
        have HL : Hid (ratedL [a0, b0, a1, b1] [0, 1, sc] 2 1 = [x0, x1, x2, x3]) := by
          unfold Hid
          rw [ratedL_two, e0, e1, e2, e3]
        clear hr e0 e1 e2 e3
        go_enter Try.func9, Try.ntmps9
        go_wp2_with (first | (go_at_call 28; refine (ValidRated_lit _ _ _).mono ?_; rintro e w_ ⟨rfl, rfl⟩) | (go_at_call 42; refine (between_any _ _ _ _).mono ?_; rintro e w_ ⟨rfl, rfl⟩))
        refine Calls.mono (rated_any _ _ 2 2 1 1 [a0, b0, a1, b1] [0, 1, sc] _ (sl_two (by simp) rfl rfl) (sl_one (by simp) rfl rfl) (by omega) (by omega) HG.out) ?_
        rintro e w9 ⟨A, g, cap, rfl, hg, hown, hb9⟩
        rw [HL.out] at hown
        obtain ⟨rfl, rest, hk⟩ := hown.blk (by omega)
        simp only [World.size_alloc] at hg
        have c0 : w9.cell? ⟨g, 0, none⟩ = some (.int .i64 x0) := by rw [hk.cell]; simp
        have c1 : w9.cell? ⟨g, 1, none⟩ = some (.int .i64 x1) := by rw [hk.cell]; simp
        have c2 : w9.cell? ⟨g, 2, none⟩ = some (.int .i64 x2) := by rw [hk.cell]; simp
        have c3 : w9.cell? ⟨g, 3, none⟩ = some (.int .i64 x3) := by rw [hk.cell]; simp
        have k6 : Blk w9 (w.heap.size + 1 + 1) 24 #[.int .i64 0, .int .i64 0] := Blk.later (by first | (refine Blk.later (Blk.later (Blk.later (Blk.later (Blk.later (Blk.new' (by simp)) (boxed2' _ _)) (boxed2' _ _)) (boxed2' _ _)) (boxed2' _ _)) (boxed2' _ _))) hb9
        have k7 : Blk w9 (w.heap.size + 1 + 1 + 1) 24 #[.int .i64 0, .int .i64 0] := Blk.later (by first | (refine Blk.later (Blk.later (Blk.later (Blk.later (Blk.new' (by simp)) (boxed2' _ _)) (boxed2' _ _)) (boxed2' _ _)) (boxed2' _ _))) hb9
        obtain ⟨hq0, hq1, hq2, hq3⟩ := res4_cells k6 k7 (by omega)
        have d0 := k6.cell 0
        have d1 := k6.cell 1
        have d2 := k7.cell 0
        have d3 := k7.cell 1
        have f0 := k6.free 0
        have f1 := k6.free 1
        have f2 := k7.free 0
        have f3 := k7.free 1
        have n0 : g ≠ w.heap.size + 1 + 1 := by omega
        have n1 : g ≠ w.heap.size + 1 + 1 + 1 := by omega
        clear hk hown k6 k7 HL HG
        go_wp2_with fail
        go_region_with fail
        all_goals
          go_wp2_with fail
          (try simp only [Exit.inBlock, Exit.then])
          refine bodyPost_ret (by simp [results, Try.results9, go_sem, hq0, hq1, hq2, hq3]; try rfl) rfl ?_
          exact ⟨rfl, by (repeat' (first | (with_reducible exact Below.refl _ _) | (with_reducible assumption) | (with_reducible refine Below.alloc ?_ ?_ _) | (with_reducible refine Below.drew ?_) | (with_reducible refine belowDrewN ?_ _) | (with_reducible refine Below.setCell ?_ ?_ _) | (with_reducible refine Below.via (by with_reducible assumption) ?_ ?_) | (with_reducible refine Below.viaD (by with_reducible assumption) ?_ ?_) | (with_reducible exact Below.size (by with_reducible assumption)) | go_size | (with_reducible refine Nat.le_trans ?_ (Below.size (by with_reducible assumption))) | (with_reducible refine Nat.le_trans ?_ (sizeAlloc _ _)) | (with_reducible refine Nat.le_trans ?_ (sizeSet _ _ _)) | (with_reducible refine Nat.le_trans ?_ (sizeDrew _))))⟩
end Go.Proofs.Ytaeeijjejkohjaa
