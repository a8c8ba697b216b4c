/- DirectScore: both functions, and the law. No conditions beyond lengths. -/
import Derived.Test.YtlogcbiebpfmlaaDirect
namespace Go.Proofs.Ytlogcbiebpfmlaa
set_option linter.unusedSimpArgs false
set_option linter.unusedVariables false
open Go.RowKit

/-- What DirectScore returns. -/
def dsR (n a b : Int) (vs : List Value) (c : Nat) : Int × Int × Int :=
  if validMs n vs then (if inB a 0 (n - 1) && inB b 0 (n - 1) && !(a == b) then (dS1 vs a b c, dS2 vs a b c, 0) else (0, 0, 2)) else (0, 0, 1)
theorem trip {x y z x' y' z' : Int} (h : (x', y', z') = (x, y, z)) : x' = x ∧ y' = y ∧ z' = z := by
  injection h with h1 h2
  injection h2 with h2 h3
  exact ⟨h1, h2, h3⟩
set_option maxRecDepth 100000 in
set_option maxHeartbeats 2000000 in
theorem sDirectScore_any (n a b : Int) (A : Option Addr) (c cp : Nat) (vs : List Value) (w : World) (hs : Sl w w.heap.size 4 A c vs) (ht : TypMatch vs c) (hc : c ≤ 9223372036854775807) (x y z : Int) (hr : dsR n a b vs c = (x, y, z)) :
    Calls Try.prog 10 #[.int .i64 n, .slice A c cp, .int .i64 a, .int .i64 b] w fun e w' => e = .returned (.tuple #[.int .i64 x, .int .i64 y, .int .i64 z]) ∧ Below w.heap.size w w' := by
  have HL := Lib.hid hs.len
  have HT := Lib.hid ht
  unfold dsR at hr
  cases hv : validMs n vs
  case false =>
    rw [hv] at hr
    obtain ⟨rfl, rfl, rfl⟩ := trip hr
    clear hr
    go_enter Try.func10, Try.ntmps10
    go_wp2_with (go_at_call 18; refine (l26Ok_any n A c cp vs _ hs HT.out hc).mono ?_; rintro e w1 ⟨rfl, hb1⟩; obtain ⟨hc1, hf1, hl1, hz1⟩ := bfacts hb1; (try simp only [World.size_alloc, World.size_setCell, World.size_drew] at hz1))
    go_ret3
    exact ⟨rfl, by (repeat' (first | (with_reducible exact Below.refl _ _) | (with_reducible assumption) | (with_reducible refine Below.alloc ?_ ?_ _) | (with_reducible refine Below.drew ?_) | (with_reducible refine belowDrewN ?_ _) | (with_reducible refine Below.setCell ?_ ?_ _) | (with_reducible refine Below.via (by with_reducible assumption) ?_ ?_) | (with_reducible refine Below.viaD (by with_reducible assumption) ?_ ?_) | (with_reducible exact Below.size (by with_reducible assumption)) | go_size | (with_reducible refine Nat.le_trans ?_ (Below.size (by with_reducible assumption))) | (with_reducible refine Nat.le_trans ?_ (sizeAlloc _ _)) | (with_reducible refine Nat.le_trans ?_ (sizeSet _ _ _)) | (with_reducible refine Nat.le_trans ?_ (sizeDrew _))))⟩
  case true =>
    rw [hv, if_pos rfl] at hr
    obtain ⟨m, rfl, k1, k2, hc150, hz⟩ := validMs_of HL.out hv
    have HZ : Hid (∀ j, j < c → 0 ≤ intAt vs (j * 4 + 2) ∧ intAt vs (j * 4 + 2) ≤ 2) := fun j hj => ⟨(hz j hj).2.2.2.2.2.1, (hz j hj).2.2.2.2.2.2⟩
    clear hz ht
    cases q1 : inB a 0 ((m : Int) - 1)
    case false =>
      rw [q1] at hr
      obtain ⟨rfl, rfl, rfl⟩ := trip hr
      clear hr
      go_enter Try.func10, Try.ntmps10
      go_wp2_with (first | (go_at_call 18; refine (l26Ok_any m A c cp vs _ hs HT.out hc).mono ?_; rintro e w1 ⟨rfl, hb1⟩; obtain ⟨hc1, hf1, hl1, hz1⟩ := bfacts hb1; (try simp only [World.size_alloc, World.size_setCell, World.size_drew] at hz1)) | (go_at_call 19; refine (l00In_any _ _ _ _).mono ?_; rintro e w_ ⟨rfl, rfl⟩))
      go_ret3
      exact ⟨rfl, by (repeat' (first | (with_reducible exact Below.refl _ _) | (with_reducible assumption) | (with_reducible refine Below.alloc ?_ ?_ _) | (with_reducible refine Below.drew ?_) | (with_reducible refine belowDrewN ?_ _) | (with_reducible refine Below.setCell ?_ ?_ _) | (with_reducible refine Below.via (by with_reducible assumption) ?_ ?_) | (with_reducible refine Below.viaD (by with_reducible assumption) ?_ ?_) | (with_reducible exact Below.size (by with_reducible assumption)) | go_size | (with_reducible refine Nat.le_trans ?_ (Below.size (by with_reducible assumption))) | (with_reducible refine Nat.le_trans ?_ (sizeAlloc _ _)) | (with_reducible refine Nat.le_trans ?_ (sizeSet _ _ _)) | (with_reducible refine Nat.le_trans ?_ (sizeDrew _))))⟩
    case true =>
      cases q2 : inB b 0 ((m : Int) - 1)
      case false =>
        rw [q1, q2] at hr
        obtain ⟨rfl, rfl, rfl⟩ := trip hr
        clear hr
        go_enter Try.func10, Try.ntmps10
        go_wp2_with (first | (go_at_call 18; refine (l26Ok_any m A c cp vs _ hs HT.out hc).mono ?_; rintro e w1 ⟨rfl, hb1⟩; obtain ⟨hc1, hf1, hl1, hz1⟩ := bfacts hb1; (try simp only [World.size_alloc, World.size_setCell, World.size_drew] at hz1)) | (go_at_call 19; refine (l00In_any _ _ _ _).mono ?_; rintro e w_ ⟨rfl, rfl⟩))
        go_ret3
        exact ⟨rfl, by (repeat' (first | (with_reducible exact Below.refl _ _) | (with_reducible assumption) | (with_reducible refine Below.alloc ?_ ?_ _) | (with_reducible refine Below.drew ?_) | (with_reducible refine belowDrewN ?_ _) | (with_reducible refine Below.setCell ?_ ?_ _) | (with_reducible refine Below.via (by with_reducible assumption) ?_ ?_) | (with_reducible refine Below.viaD (by with_reducible assumption) ?_ ?_) | (with_reducible exact Below.size (by with_reducible assumption)) | go_size | (with_reducible refine Nat.le_trans ?_ (Below.size (by with_reducible assumption))) | (with_reducible refine Nat.le_trans ?_ (sizeAlloc _ _)) | (with_reducible refine Nat.le_trans ?_ (sizeSet _ _ _)) | (with_reducible refine Nat.le_trans ?_ (sizeDrew _))))⟩
      case true =>
        cases q3 : (a == b)
        case true =>
          rw [q1, q2, q3] at hr
          obtain ⟨rfl, rfl, rfl⟩ := trip hr
          clear hr
          go_enter Try.func10, Try.ntmps10
          go_wp2_with (first | (go_at_call 18; refine (l26Ok_any m A c cp vs _ hs HT.out hc).mono ?_; rintro e w1 ⟨rfl, hb1⟩; obtain ⟨hc1, hf1, hl1, hz1⟩ := bfacts hb1; (try simp only [World.size_alloc, World.size_setCell, World.size_drew] at hz1)) | (go_at_call 19; refine (l00In_any _ _ _ _).mono ?_; rintro e w_ ⟨rfl, rfl⟩))
          go_ret3
          exact ⟨rfl, by (repeat' (first | (with_reducible exact Below.refl _ _) | (with_reducible assumption) | (with_reducible refine Below.alloc ?_ ?_ _) | (with_reducible refine Below.drew ?_) | (with_reducible refine belowDrewN ?_ _) | (with_reducible refine Below.setCell ?_ ?_ _) | (with_reducible refine Below.via (by with_reducible assumption) ?_ ?_) | (with_reducible refine Below.viaD (by with_reducible assumption) ?_ ?_) | (with_reducible exact Below.size (by with_reducible assumption)) | go_size | (with_reducible refine Nat.le_trans ?_ (Below.size (by with_reducible assumption))) | (with_reducible refine Nat.le_trans ?_ (sizeAlloc _ _)) | (with_reducible refine Nat.le_trans ?_ (sizeSet _ _ _)) | (with_reducible refine Nat.le_trans ?_ (sizeDrew _))))⟩
        case false =>
          rw [q1, q2, q3] at hr
          obtain ⟨hr1, hr2, rfl⟩ := trip hr
          have HR1 := Lib.hid hr1
          have HR2 := Lib.hid hr2
          clear hr hr1 hr2
          go_enter Try.func10, Try.ntmps10
          go_wp2_with (first | (go_at_call 18; refine (l26Ok_any m A c cp vs _ hs HT.out hc).mono ?_; rintro e w1 ⟨rfl, hb1⟩; obtain ⟨hc1, hf1, hl1, hz1⟩ := bfacts hb1; (try simp only [World.size_alloc, World.size_setCell, World.size_drew] at hz1)) | (go_at_call 19; refine (l00In_any _ _ _ _).mono ?_; rintro e w_ ⟨rfl, rfl⟩))
          have hs1 := hs.later hb1
          rename World => w1
          go_loop [11, 12, 13] (fun o t i => ∃ k : Nat, k ≤ c ∧ i = .int .i64 k ∧ o = .int .i64 (dS1 vs a b k) ∧ t = .int .i64 (dS2 vs a b k)) (fun _ _ i => c - (intOf i).toNat)
          case atStart => exact ⟨0, Nat.zero_le _, rfl, rfl, rfl⟩
          case round =>
            obtain ⟨k, hk, rfl, rfl, rfl⟩ := hrel
            by_cases hlt : k < c
            · obtain ⟨blk, off, a0, a1, a2, a3, rfl, hb, hc0, hc1', hc2, hc3, HM⟩ := hs1.matchAt HT.out hlt
              obtain ⟨g1, g2, g3, g4⟩ := dS_bd (a := a) (b := b) HZ.out k hk
              obtain ⟨s0, s2⟩ := HZ.out k hlt
              rw [HM.out.2.2.1] at s0 s2
              have HX1 : Hid (dS1 vs a b (k + 1) = dS1 vs a b k + dOne a b a0 a1 a2) := by unfold Hid; rw [dS1, HM.out.1, HM.out.2.1, HM.out.2.2.1]
              have HX2 : Hid (dS2 vs a b (k + 1) = dS2 vs a b k + dTwo a b a0 a1 a2) := by unfold Hid; rw [dS2, HM.out.1, HM.out.2.1, HM.out.2.2.1]
              revert g1 g2 g3 g4 HX1 HX2
              generalize dS1 vs a b k = u
              generalize dS2 vs a b k = v
              intro g1 g2 g3 g4 HX1 HX2
              cases p1 : (a0 == a) <;> cases p2 : (a1 == b) <;> cases p3 : (a0 == b) <;> cases p4 : (a1 == a)
              all_goals
                simp [dOne, dTwo, p1, p2, p3, p4] at HX1 HX2
                go_wp2_with fail
                go_round
                case rel => exact ⟨k + 1, by omega, by go_num, (by rw [HX1.out] <;> first | rfl | exact congrArg (Value.int .i64) (by omega)), (by rw [HX2.out] <;> first | rfl | exact congrArg (Value.int .i64) (by omega))⟩
                case measure => first | (simp [intOf]; done) | (simp [intOf]; omega)
            · obtain rfl : k = c := by omega
              go_wp2_with fail
              go_ret3
              exact ⟨by rw [HR1.out, HR2.out]; rfl, by (repeat' (first | (with_reducible exact Below.refl _ _) | (with_reducible assumption) | (with_reducible refine Below.alloc ?_ ?_ _) | (with_reducible refine Below.drew ?_) | (with_reducible refine belowDrewN ?_ _) | (with_reducible refine Below.setCell ?_ ?_ _) | (with_reducible refine Below.via (by with_reducible assumption) ?_ ?_) | (with_reducible refine Below.viaD (by with_reducible assumption) ?_ ?_) | (with_reducible exact Below.size (by with_reducible assumption)) | go_size | (with_reducible refine Nat.le_trans ?_ (Below.size (by with_reducible assumption))) | (with_reducible refine Nat.le_trans ?_ (sizeAlloc _ _)) | (with_reducible refine Nat.le_trans ?_ (sizeSet _ _ _)) | (with_reducible refine Nat.le_trans ?_ (sizeDrew _))))⟩
set_option maxHeartbeats 2000000 in
theorem DirectScore_any (n a b : Int) (A : Option Addr) (c cp : Nat) (vs : List Value) (w : World) (hs : Sl w w.heap.size 4 A c vs) (ht : TypMatch vs c) (hc : c ≤ 9223372036854775807) (x y z : Int) (hr : dsR n a b vs c = (x, y, z)) :
    Calls Try.prog 9 #[.int .i64 n, .slice A c cp, .int .i64 a, .int .i64 b] w fun e w' => e = .returned (.tuple #[.int .i64 x, .int .i64 y, .int .i64 z]) ∧ Below w.heap.size w w' := by
  have HL := Lib.hid hs.len
  have HT := Lib.hid ht
  unfold dsR at hr
  cases hv : validMs n vs
  case false =>
    rw [hv] at hr
    obtain ⟨rfl, rfl, rfl⟩ := trip hr
    clear hr
    go_enter Try.func9, Try.ntmps9
    go_wp2_with (go_at_call 15; refine (ValidMatches_any n A c cp vs _ hs HT.out hc).mono ?_; rintro e w1 ⟨rfl, hb1⟩; obtain ⟨hc1, hf1, hl1, hz1⟩ := bfacts hb1; (try simp only [World.size_alloc, World.size_setCell, World.size_drew] at hz1))
    go_ret3
    exact ⟨rfl, by (repeat' (first | (with_reducible exact Below.refl _ _) | (with_reducible assumption) | (with_reducible refine Below.alloc ?_ ?_ _) | (with_reducible refine Below.drew ?_) | (with_reducible refine belowDrewN ?_ _) | (with_reducible refine Below.setCell ?_ ?_ _) | (with_reducible refine Below.via (by with_reducible assumption) ?_ ?_) | (with_reducible refine Below.viaD (by with_reducible assumption) ?_ ?_) | (with_reducible exact Below.size (by with_reducible assumption)) | go_size | (with_reducible refine Nat.le_trans ?_ (Below.size (by with_reducible assumption))) | (with_reducible refine Nat.le_trans ?_ (sizeAlloc _ _)) | (with_reducible refine Nat.le_trans ?_ (sizeSet _ _ _)) | (with_reducible refine Nat.le_trans ?_ (sizeDrew _))))⟩
  case true =>
    rw [hv, if_pos rfl] at hr
    obtain ⟨m, rfl, k1, k2, hc150, hz⟩ := validMs_of HL.out hv
    have HZ : Hid (∀ j, j < c → 0 ≤ intAt vs (j * 4 + 2) ∧ intAt vs (j * 4 + 2) ≤ 2) := fun j hj => ⟨(hz j hj).2.2.2.2.2.1, (hz j hj).2.2.2.2.2.2⟩
    clear hz ht
    cases q1 : inB a 0 ((m : Int) - 1)
    case false =>
      rw [q1] at hr
      obtain ⟨rfl, rfl, rfl⟩ := trip hr
      clear hr
      go_enter Try.func9, Try.ntmps9
      go_wp2_with (first | (go_at_call 15; refine (ValidMatches_any m A c cp vs _ hs HT.out hc).mono ?_; rintro e w1 ⟨rfl, hb1⟩; obtain ⟨hc1, hf1, hl1, hz1⟩ := bfacts hb1; (try simp only [World.size_alloc, World.size_setCell, World.size_drew] at hz1)) | (go_at_call 16; refine (between_any _ _ _ _).mono ?_; rintro e w_ ⟨rfl, rfl⟩))
      go_ret3
      exact ⟨rfl, by (repeat' (first | (with_reducible exact Below.refl _ _) | (with_reducible assumption) | (with_reducible refine Below.alloc ?_ ?_ _) | (with_reducible refine Below.drew ?_) | (with_reducible refine belowDrewN ?_ _) | (with_reducible refine Below.setCell ?_ ?_ _) | (with_reducible refine Below.via (by with_reducible assumption) ?_ ?_) | (with_reducible refine Below.viaD (by with_reducible assumption) ?_ ?_) | (with_reducible exact Below.size (by with_reducible assumption)) | go_size | (with_reducible refine Nat.le_trans ?_ (Below.size (by with_reducible assumption))) | (with_reducible refine Nat.le_trans ?_ (sizeAlloc _ _)) | (with_reducible refine Nat.le_trans ?_ (sizeSet _ _ _)) | (with_reducible refine Nat.le_trans ?_ (sizeDrew _))))⟩
    case true =>
      cases q2 : inB b 0 ((m : Int) - 1)
      case false =>
        rw [q1, q2] at hr
        obtain ⟨rfl, rfl, rfl⟩ := trip hr
        clear hr
        go_enter Try.func9, Try.ntmps9
        go_wp2_with (first | (go_at_call 15; refine (ValidMatches_any m A c cp vs _ hs HT.out hc).mono ?_; rintro e w1 ⟨rfl, hb1⟩; obtain ⟨hc1, hf1, hl1, hz1⟩ := bfacts hb1; (try simp only [World.size_alloc, World.size_setCell, World.size_drew] at hz1)) | (go_at_call 16; refine (between_any _ _ _ _).mono ?_; rintro e w_ ⟨rfl, rfl⟩))
        go_ret3
        exact ⟨rfl, by (repeat' (first | (with_reducible exact Below.refl _ _) | (with_reducible assumption) | (with_reducible refine Below.alloc ?_ ?_ _) | (with_reducible refine Below.drew ?_) | (with_reducible refine belowDrewN ?_ _) | (with_reducible refine Below.setCell ?_ ?_ _) | (with_reducible refine Below.via (by with_reducible assumption) ?_ ?_) | (with_reducible refine Below.viaD (by with_reducible assumption) ?_ ?_) | (with_reducible exact Below.size (by with_reducible assumption)) | go_size | (with_reducible refine Nat.le_trans ?_ (Below.size (by with_reducible assumption))) | (with_reducible refine Nat.le_trans ?_ (sizeAlloc _ _)) | (with_reducible refine Nat.le_trans ?_ (sizeSet _ _ _)) | (with_reducible refine Nat.le_trans ?_ (sizeDrew _))))⟩
      case true =>
        cases q3 : (a == b)
        case true =>
          rw [q1, q2, q3] at hr
          obtain ⟨rfl, rfl, rfl⟩ := trip hr
          clear hr
          go_enter Try.func9, Try.ntmps9
          go_wp2_with (first | (go_at_call 15; refine (ValidMatches_any m A c cp vs _ hs HT.out hc).mono ?_; rintro e w1 ⟨rfl, hb1⟩; obtain ⟨hc1, hf1, hl1, hz1⟩ := bfacts hb1; (try simp only [World.size_alloc, World.size_setCell, World.size_drew] at hz1)) | (go_at_call 16; refine (between_any _ _ _ _).mono ?_; rintro e w_ ⟨rfl, rfl⟩))
          go_ret3
          exact ⟨rfl, by (repeat' (first | (with_reducible exact Below.refl _ _) | (with_reducible assumption) | (with_reducible refine Below.alloc ?_ ?_ _) | (with_reducible refine Below.drew ?_) | (with_reducible refine belowDrewN ?_ _) | (with_reducible refine Below.setCell ?_ ?_ _) | (with_reducible refine Below.via (by with_reducible assumption) ?_ ?_) | (with_reducible refine Below.viaD (by with_reducible assumption) ?_ ?_) | (with_reducible exact Below.size (by with_reducible assumption)) | go_size | (with_reducible refine Nat.le_trans ?_ (Below.size (by with_reducible assumption))) | (with_reducible refine Nat.le_trans ?_ (sizeAlloc _ _)) | (with_reducible refine Nat.le_trans ?_ (sizeSet _ _ _)) | (with_reducible refine Nat.le_trans ?_ (sizeDrew _))))⟩
        case false =>
          rw [q1, q2, q3] at hr
          obtain ⟨hr1, hr2, rfl⟩ := trip hr
          have HR1 := Lib.hid hr1
          have HR2 := Lib.hid hr2
          clear hr hr1 hr2
          go_enter Try.func9, Try.ntmps9
          go_wp2_with (first | (go_at_call 15; refine (ValidMatches_any m A c cp vs _ hs HT.out hc).mono ?_; rintro e w1 ⟨rfl, hb1⟩; obtain ⟨hc1, hf1, hl1, hz1⟩ := bfacts hb1; (try simp only [World.size_alloc, World.size_setCell, World.size_drew] at hz1)) | (go_at_call 16; refine (between_any _ _ _ _).mono ?_; rintro e w_ ⟨rfl, rfl⟩))
          have hs1 := hs.later hb1
          refine (direct_any A c cp vs a b _ hs1 HT.out hc150 HZ.out).mono ?_
          rintro e w2 ⟨j, rfl, hb2⟩
          go_wp2_with fail
          go_ret3
          exact ⟨by rw [← HR1.out, ← HR2.out]; rfl, by (repeat' (first | (with_reducible exact Below.refl _ _) | (with_reducible assumption) | (with_reducible refine Below.alloc ?_ ?_ _) | (with_reducible refine Below.drew ?_) | (with_reducible refine belowDrewN ?_ _) | (with_reducible refine Below.setCell ?_ ?_ _) | (with_reducible refine Below.via (by with_reducible assumption) ?_ ?_) | (with_reducible refine Below.viaD (by with_reducible assumption) ?_ ?_) | (with_reducible exact Below.size (by with_reducible assumption)) | go_size | (with_reducible refine Nat.le_trans ?_ (Below.size (by with_reducible assumption))) | (with_reducible refine Nat.le_trans ?_ (sizeAlloc _ _)) | (with_reducible refine Nat.le_trans ?_ (sizeSet _ _ _)) | (with_reducible refine Nat.le_trans ?_ (sizeDrew _))))⟩
end Go.Proofs.Ytlogcbiebpfmlaa
