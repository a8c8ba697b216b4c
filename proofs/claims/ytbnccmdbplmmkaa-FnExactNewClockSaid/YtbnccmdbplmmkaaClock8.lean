/- NewClock: the law. No conditions. -/
import Derived.Test.YtbnccmdbplmmkaaClock7
namespace Go.Proofs.Ytbnccmdbplmmkaa
set_option linter.unusedSimpArgs false
set_option linter.unusedVariables false
open Go.RowKit

set_option maxRecDepth 100000 in
set_option maxHeartbeats 2000000 in
theorem nc_walk (l i d : Int) (w : World) : Calls Try.prog 3 #[.int .i64 l, .int .i64 i, .int .i64 d] w fun e w' => e = .returned (.bool true) ∧ Below w.heap.size w w' := by
  obtain ⟨zs, i', d', code, hr⟩ : ∃ zs i' d' code, ncR l i d = (zs, i', d', code) := ⟨_, _, _, _, rfl⟩
  have hll : zs.length ≤ 2 := by
    unfold ncR at hr
    split at hr
    · obtain ⟨rfl, _⟩ := quad hr; simp
    · obtain ⟨rfl, _⟩ := quad hr; simp
  have HR := Lib.hid hr
  have hcn : (code != code) = false := by simp
  clear hr
  go_enter Try.func3, Try.ntmps3
  go_wp2_with fail
  refine (sNewClock_any l i d zs i' d' code HR.out _).mono ?_
  rintro e w1 ⟨A0, g0, q, c0, rfl, hg0, hl0, o0, b1⟩
  have HQ := Lib.hid o0.len
  have hq2 : q ≤ 2 := by have := HQ.out; omega
  go_wp2_with fail
  refine (NewClock_any l i d zs i' d' code HR.out _).mono ?_
  rintro e w2 ⟨A1, g1, q1, c1, rfl, hg1, hl1, o1, b2⟩
  obtain rfl : q1 = q := by have := HQ.out; have := o1.len; omega
  have KW := Lib.hid ((Blk.new w1 24 #[.slice A0 q1 c0, .int .i64 i', .int .i64 d', .int .i64 0, .int .i64 0, .bool false, .bool false]).later b2)
  have hKW := KW.out.cell
  have lKW := KW.out.lt
  have z1 := b1.size
  have z2 := b2.size
  simp only [World.size_alloc] at z2 hg1
  have p0 := Lib.hid ((o0.later (boxed_ _ _)).later b2)
  have B2 : Below w.heap.size w w2 := by (repeat' (first | (with_reducible exact Below.refl _ _) | (with_reducible assumption) | (with_reducible refine Below.alloc ?_ ?_ _) | (with_reducible refine Below.drew ?_) | (with_reducible refine belowDrewN ?_ _) | (with_reducible refine Below.setCell ?_ ?_ _) | (with_reducible refine Below.via (by with_reducible assumption) ?_ ?_) | (with_reducible exact Below.size (by with_reducible assumption)) | go_size | (with_reducible refine Nat.le_trans ?_ (Below.size (by with_reducible assumption))) | (with_reducible refine Nat.le_trans ?_ (sizeAlloc _ _)) | (with_reducible refine Nat.le_trans ?_ (sizeSet _ _ _)) | (with_reducible refine Nat.le_trans ?_ (sizeDrew _))))
  have l0 : 0 < q1 → g0 < w1.heap.size := fun h => o0.lt h
  clear o0
  go_wp2_with fail
  refine (eqClock_same A1 q1 c1 zs i' d' 0 0 false false _ (o1.later (boxed_ _ _)).sl A0 c0 (p0.out.later (boxed_ _ _)).sl (by omega)).mono ?_
  rintro e w3 ⟨rfl, b3⟩
  have KG := Lib.hid ((Blk.new w2 24 #[.slice A1 q1 c1, .int .i64 i', .int .i64 d', .int .i64 0, .int .i64 0, .bool false, .bool false]).later b3)
  have KW3 := Lib.hid (KW.out.far _ b3)
  have hKG := KG.out.cell
  have hKW3 := KW3.out.cell
  have lKG := KG.out.lt
  have lKW3 := KW3.out.lt
  have z3 := b3.size
  simp only [World.size_alloc] at z3
  have p1 := Lib.hid ((o1.later (boxed_ _ _)).later b3)
  have q0 := Lib.hid ((p0.out.later (boxed_ _ _)).later b3)
  have B3 : Below w.heap.size w w3 := Below.via b3 (Below.alloc B2 B2.size _) (Nat.le_trans B2.size (sizeAlloc _ _))
  have l1 : 0 < q1 → g1 < w2.heap.size := fun h => o1.lt h
  clear hKW lKW KW o1 p0
  go_wp2_with fail
  refine (markClock_any A1 q1 c1 _ zs i' d' 0 0 false false 1 _ p1.out (by omega) (by omega) (by omega)).mono ?_
  rintro e w4 ⟨rfl, r4, hg4⟩
  have B4 : Below w.heap.size w w4 := grown_below B3 hg4 (by omega) B3.size
  have z4 := hg4.size
  have KG4 : Hid (Blk w4 w2.heap.size 24 #[.slice A1 q1 c1, .int .i64 i', .int .i64 d', .int .i64 0, .int .i64 0, .bool false, .bool false]) := (hg4.block _ lKG (by simp; omega)).trans KG.out
  have KW4 : Hid (Blk w4 w1.heap.size 24 #[.slice A0 q1 c0, .int .i64 i', .int .i64 d', .int .i64 0, .int .i64 0, .bool false, .bool false]) := (hg4.block _ lKW3 (by simp; omega)).trans KW3.out
  have q4 := Lib.hid (q0.out.apart hg4 (fun hn => by have := l0 hn; omega))
  clear hKG hKW3 lKG lKW3 KG KW3 p1 q0 hg4
  have hKG := KG4.out.cell
  have hKW := KW4.out.cell
  have lKG := KG4.out.lt
  have lKW := KW4.out.lt
  go_wp2_with fail
  refine (heldClock_any A1 q1 c1 i' d' 0 0 false false 1 _ r4.sl (by omega) (by omega) (by omega)).mono ?_
  rintro e w5 ⟨rfl, b5⟩
  have KG5 := Lib.hid (KG4.out.later b5)
  have KW5 := Lib.hid (KW4.out.later b5)
  have r5 := Lib.hid (r4.later b5)
  have q5 := Lib.hid (q4.out.later b5)
  have B5 := Below.via b5 B4 B4.size
  clear hKG hKW lKG lKW KG4 KW4 r4 q4
  have hKG := KG5.out.cell
  have hKW := KW5.out.cell
  have lKG := KG5.out.lt
  have lKW := KW5.out.lt
  go_wp2_with fail
  refine (NewClock_any l i d zs i' d' code HR.out _).mono ?_
  rintro e w6 ⟨A2, g2, q2, c2, rfl, hg2, hl2, o2, b6⟩
  obtain rfl : q2 = q1 := by have := HQ.out; have := o2.len; omega
  have KG6 := Lib.hid (KG5.out.later b6)
  have KW6 := Lib.hid (KW5.out.later b6)
  have r6 := Lib.hid (r5.out.later b6)
  have q6 := Lib.hid (q5.out.later b6)
  have B6 := Below.via b6 B5 B5.size
  clear hKG hKW lKG lKW KG5 KW5 r5 q5
  have hKG := KG6.out.cell
  have hKW := KW6.out.cell
  have lKG := KG6.out.lt
  have lKW := KW6.out.lt
  go_wp2_with fail
  refine (eqClock_same A2 q2 c2 zs i' d' 0 0 false false _ (o2.later (boxed_ _ _)).sl A0 c0 (q6.out.later (boxed_ _ _)).sl (by omega)).mono ?_
  rintro e w7 ⟨rfl, b7⟩
  have KG7 := Lib.hid (KG6.out.far _ b7)
  have r7 := Lib.hid ((r6.out.later (boxed_ _ _)).later b7)
  have B7 : Below w.heap.size w w7 := Below.via b7 (Below.alloc B6 B6.size _) (Nat.le_trans B6.size (sizeAlloc _ _))
  clear hKG hKW lKG lKW KG6 KW6 r6 q6
  have hKG := KG7.out.cell
  go_wp2_with fail
  refine (heldClock_any A1 q2 c1 i' d' 0 0 false false 1 _ r7.out.sl (by omega) (by omega) (by omega)).mono ?_
  rintro e w8 ⟨rfl, b8⟩
  have B8 := Below.via b8 B7 B7.size
  go_wp2_with fail
  go_ret
  exact ⟨rfl, B8⟩
end Go.Proofs.Ytbnccmdbplmmkaa
