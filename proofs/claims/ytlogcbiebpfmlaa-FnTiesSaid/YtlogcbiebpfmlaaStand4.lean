/- Standings: the rows of all players, by the reference. Conditions: valid matches. -/
import Derived.Test.YtlogcbiebpfmlaaStand3
namespace Go.Proofs.Ytlogcbiebpfmlaa
set_option linter.unusedSimpArgs false
set_option linter.unusedVariables false
open Go.RowKit

/-- Rows of the call's own. -/
def RwPost (n : Nat) (F : Nat → Nat → Int) (w : World) (e : Ending) (w' : World) : Prop :=
  ∃ (g cap : Nat), e = .returned (.slice (some ⟨g, 0, none⟩) n cap) ∧ w.heap.size ≤ g ∧ OwnV w' g 54 6 (some ⟨g, 0, none⟩) n (flatF n F) ∧ Below w.heap.size w w'
theorem row_made6 {W : World} {g base : Nat} {e : TypeId} (hg : g = W.heap.size) (hb : base ≤ g) : (W.alloc (.cells #[] e)).ownsRow base e 6 (.slice (some ⟨g, 0, none⟩) 0 0) 0 [] := by
  subst hg
  exact World.ownsRow_made _ _ 0 hb (Nat.zero_le _) rfl
theorem grown_drewN {w w' : World} {row : Option Nat} (h : w.grownBy w' row) (k : Nat) : w.grownBy (w'.drewN k) row := ⟨h.os, h.tape, h.output, h.size, h.block⟩
set_option maxRecDepth 100000 in
set_option maxHeartbeats 2000000 in
theorem l26Rows_any (n : Nat) (A : Option Addr) (c cp : Nat) (vs : List Value) (w : World) (hs : Sl w w.heap.size 4 A c vs) (ht : TypMatch vs c) (h2 : 2 ≤ n) (hn : n ≤ 12) (hc : c ≤ 150) (hz : okMs vs c n) :
    Calls Try.prog 32 #[.int .i64 n, .slice A c cp] w (RwPost n (F2 vs c c) w) := by
  obtain ⟨i0, ti, tz0, tz1, tz2⟩ := info_parts info_Row'
  have HFG := Lib.hid (FG_all (n := n) hz)
  have HZ := Lib.hid hz
  have HS := Lib.hid hs
  have HT := Lib.hid ht
  have HB1 := Lib.hid (G1_bd hz)
  have HB2 := Lib.hid (G2_bd hz hc)
  clear hz hs ht
  go_enter Try.func32, Try.ntmps32
  go_wp2_with fail
  go_loopw [5, 6] (fun v i wr => ∃ k : Nat, k ≤ n ∧ i = .int .i64 k ∧ wr.ownsRow w.heap.size 54 6 v k (flatF k (F1 vs 0)) ∧ Below w.heap.size w wr) (fun _ i _ => n - (intOf i).toNat)
  case atStart => exact ⟨0, Nat.zero_le _, rfl, row_made6 rfl (Nat.le_refl _), by (repeat' (first | (with_reducible exact Below.refl _ _) | (with_reducible assumption) | (with_reducible refine Below.alloc ?_ ?_ _) | (with_reducible refine Below.drew ?_) | (with_reducible refine belowDrewN ?_ _) | (with_reducible refine Below.setCell ?_ ?_ _) | (with_reducible refine Below.via (by with_reducible assumption) ?_ ?_) | (with_reducible refine Below.viaD (by with_reducible assumption) ?_ ?_) | (with_reducible exact Below.size (by with_reducible assumption)) | go_size | (with_reducible refine Nat.le_trans ?_ (Below.size (by with_reducible assumption))) | (with_reducible refine Nat.le_trans ?_ (sizeAlloc _ _)) | (with_reducible refine Nat.le_trans ?_ (sizeSet _ _ _)) | (with_reducible refine Nat.le_trans ?_ (sizeDrew _))))⟩
  case round =>
    obtain ⟨k, hk, rfl, hown, hbl⟩ := hrel
    have hbs := hbl.size
    have HO := Lib.hid hown
    have HBL := Lib.hid hbl
    clear hown hbl
    by_cases hlt : k < n
    · go_wp2_with (at_builtin; refine wpList_append_sl _ rfl _ _ 51 rfl w.heap.size 54 i0 _ 6 48 Try.underlying51 ti tz0 tz1 tz2 rfl (by decide) _ k (flatF k (F1 vs 0)) rfl (HO.out.alloc _) (wr.heap.size + 1) _ 1 1 [.int .i64 k, .int .i64 0, .int .i64 0, .int .i64 0, .int .i64 0, .int .i64 0] rfl (Sl.built (by simp) (by simp) rfl) ?c1 ?c2 ?c3 ?c4 ?_)
      case c1 => intro u hu; simp at hu; rcases hu with rfl | rfl <;> rfl
      case c2 => unfold maxLen; omega
      case c3 => omega
      case c4 => simp; omega
      intro v' w1 hown1 hg1 _
      have hbn : Below w.heap.size w w1 := below_app (by have := HBL.out; (repeat' (first | (with_reducible exact Below.refl _ _) | (with_reducible assumption) | (with_reducible refine Below.alloc ?_ ?_ _) | (with_reducible refine Below.drew ?_) | (with_reducible refine belowDrewN ?_ _) | (with_reducible refine Below.setCell ?_ ?_ _) | (with_reducible refine Below.via (by with_reducible assumption) ?_ ?_) | (with_reducible refine Below.viaD (by with_reducible assumption) ?_ ?_) | (with_reducible exact Below.size (by with_reducible assumption)) | go_size | (with_reducible refine Nat.le_trans ?_ (Below.size (by with_reducible assumption))) | (with_reducible refine Nat.le_trans ?_ (sizeAlloc _ _)) | (with_reducible refine Nat.le_trans ?_ (sizeSet _ _ _)) | (with_reducible refine Nat.le_trans ?_ (sizeDrew _))))) (HO.out.alloc _) hg1 (Nat.le_refl _) (by simp; omega)
      have HO1 := Lib.hid hown1
      clear hown1 hg1
      go_wp2_with fail
      go_roundw
      case rel => exact ⟨k + 1, by omega, by go_num, by rw [flatF_snoc]; exact HO1.out, hbn⟩
      case measure => first | (simp [intOf]; done) | (simp [intOf]; omega)
    · obtain rfl : k = n := by omega
      obtain ⟨A0, g, cap, rfl, hg, hnc, hcm, ho⟩ := own_of_row HO.out
      obtain ⟨rfl, rest, hblk⟩ := ho.blk (by omega)
      have HB0 : Hid (Blk wr g 54 (flatR k (G1 vs 0) rest)) := hblk
      clear ho hblk HO
      go_wp2_with fail
      go_loopw [7] (fun i w2 => ∃ j : Nat, j ≤ c ∧ i = .int .i64 j ∧ Blk w2 g 54 (flatR k (G1 vs j) rest) ∧ Below w.heap.size w w2) (fun i _ => c - (intOf i).toNat)
      case atStart => exact ⟨0, Nat.zero_le _, rfl, HB0.out, HBL.out⟩
      case round =>
        obtain ⟨j, hj, rfl, hblk, hbl⟩ := hrel
        have HBK := Lib.hid hblk
        have HBL2 := Lib.hid hbl
        have hgl := hblk.lt
        clear hblk hbl
        by_cases hlt : j < c
        · obtain ⟨bk, off, a0, a1, a2, a3, rfl, hb, hc0, hc1, hc2, hc3, HM⟩ := (HS.out.below HBL2.out).matchAt HT.out hlt
          have hzz := HZ.out j hlt
          rw [HM.out.1, HM.out.2.1, HM.out.2.2.1] at hzz
          obtain ⟨z0, z1, z2, z3, z4, z5, z6⟩ := hzz
          obtain ⟨x, rfl⟩ := Int.eq_ofNat_of_zero_le z0
          obtain ⟨y, rfl⟩ := Int.eq_ofNat_of_zero_le z2
          have hx : x < k := by omega
          have hy : y < k := by omega
          have hne : bk ≠ g := by omega
          have HX : Hid (G1 vs (j + 1) = cntF (cntF (G1 vs j) x a2 a3) y (2 - a2) a3) := by unfold Hid; rw [G1, HM.out.1, HM.out.2.1, HM.out.2.2.1, HM.out.2.2.2, Int.toNat_natCast, Int.toNat_natCast]
          have b1 := HB1.out j hj
          have b2 := b1.cnt x a3 z5 z6
          have HBB := Lib.hid (And.intro (b1 x) (b2 y))
          clear b1 b2
          have hws : IntKind.i64.wrap (2 - a2) = 2 - a2 := IntWalk.i64_in _ (by omega)
          go_wp2_with fail
          go_still_tail 14, (by kernel_rfl)
          go_wp2_with fail
          with_reducible refine Calls.mono (l26Count_any k x g (G1 vs j) rest a2 a3 _ ?_ hx hn z5 z6 ?_ ?_ ?_) ?_
          · exact HBK.out
          · have := HBB.out.1.1; omega
          · have := HBB.out.1.2.1; omega
          · have := HBB.out.1.2.2.1; omega
          rintro e w3 ⟨rfl, hb1, hg1⟩
          have m0 := hg1.cell (a := ⟨bk, off + j * 4, none⟩) hc0 (by simpa using hne)
          have m1 := hg1.cell (a := ⟨bk, off + j * 4 + 1, none⟩) hc1 (by simpa using hne)
          have m2 := hg1.cell (a := ⟨bk, off + j * 4 + 2, none⟩) hc2 (by simpa using hne)
          have m3 := hg1.cell (a := ⟨bk, off + j * 4 + 3, none⟩) hc3 (by simpa using hne)
          have D1 : Below w.heap.size w w3 := grown_below (Below.drew HBL2.out) hg1 hg (Below.drew HBL2.out).size
          have HB1' := Lib.hid hb1
          have HD1 := Lib.hid D1
          clear hb1 hg1 D1 hc0 hc1 hc2 hc3
          go_wp2_with fail
          go_still_tail 15, (by kernel_rfl)
          go_wp2_with fail
          with_reducible refine Calls.mono (l26Count_any k y g (cntF (G1 vs j) x a2 a3) rest (2 - a2) a3 _ ?_ hy hn (by omega) (by omega) ?_ ?_ ?_) ?_
          · exact HB1'.out
          · have := HBB.out.2.1; omega
          · have := HBB.out.2.2.1; omega
          · have := HBB.out.2.2.2.1; omega
          rintro e w4 ⟨rfl, hb2, hg2⟩
          have D2 : Below w.heap.size w w4 := grown_below (Below.drew HD1.out) hg2 hg (Below.drew HD1.out).size
          have HB2' := Lib.hid hb2
          have HD2 := Lib.hid D2
          clear hb2 hg2 D2 m0 m1 m2 m3
          go_wp2_with fail
          go_roundw
          case rel => exact ⟨j + 1, by omega, by go_num, by rw [HX.out]; exact HB2'.out, HD2.out⟩
          case measure => first | (simp [intOf]; done) | (simp [intOf]; omega)
        · obtain rfl : j = c := by omega
          have HB0' : Hid (Blk wr g 54 (flatR k (G2 vs j 0) rest)) := HBK
          go_wp2_with fail
          go_loopw [9] (fun i w3 => ∃ q : Nat, q ≤ j ∧ i = .int .i64 q ∧ Blk w3 g 54 (flatR k (G2 vs j q) rest) ∧ Below w.heap.size w w3) (fun i _ => j - (intOf i).toNat)
          case atStart => exact ⟨0, Nat.zero_le _, rfl, HB0'.out, HBL2.out⟩
          case round =>
            clear hgl
            obtain ⟨q, hq, rfl, hblk, hbl⟩ := hrel
            have HBQ := Lib.hid hblk
            have HBL3 := Lib.hid hbl
            have hgl := hblk.lt
            by_cases hlt : q < j
            · obtain ⟨bk, off, a0, a1, a2, a3, rfl, hb, hc0, hc1, hc2, hc3, HM⟩ := (HS.out.below HBL3.out).matchAt HT.out hlt
              have hzz := HZ.out q hlt
              rw [HM.out.1, HM.out.2.1, HM.out.2.2.1] at hzz
              obtain ⟨z0, z1, z2, z3, z4, z5, z6⟩ := hzz
              obtain ⟨x, rfl⟩ := Int.eq_ofNat_of_zero_le z0
              obtain ⟨y, rfl⟩ := Int.eq_ofNat_of_zero_le z2
              have hx : x < k := by omega
              have hy : y < k := by omega
              have hne : bk ≠ g := by omega
              cases a3
              case true =>
                have HX : Hid (G2 vs j (q + 1) = G2 vs j q) := by unfold Hid; rw [G2, HM.out.2.2.2, if_pos rfl]
                clear hblk hbl
                go_wp2_with fail
                go_roundw
                case rel => exact ⟨q + 1, by omega, by go_num, by rw [HX.out]; exact HBQ.out, HBL3.out⟩
                case measure => first | (simp [intOf]; done) | (simp [intOf]; omega)
              case false =>
                have HX : Hid (G2 vs j (q + 1) = addA (G2 vs j q) x y a2) := by unfold Hid; rw [G2, HM.out.2.2.2, HM.out.1, HM.out.2.1, HM.out.2.2.1, Int.toNat_natCast, Int.toNat_natCast, if_neg (by simp)]
                have b1 := HB2.out q hq
                have bx := b1 x
                have byy := b1 y
                have HA : Hid (addA (G2 vs j q) x y a2 = upF (upF (upF (upF (G2 vs j q) x 4 (G2 vs j q x 4 + G2 vs j q y 1)) y 4 (G2 vs j q y 4 + G2 vs j q x 1)) x 5 (G2 vs j q x 5 + G2 vs j q y 1 * a2)) y 5 (G2 vs j q y 5 + G2 vs j q x 1 * (2 - a2))) := rfl
                have cx1 := (hblk.cell (x * 6 + 1)).trans (flatR_at (G2 vs j q) rest hx (by omega))
                have cy1 := (hblk.cell (y * 6 + 1)).trans (flatR_at (G2 vs j q) rest hy (by omega))
                have cx4 := (hblk.cell (x * 6 + 4)).trans (flatR_at (G2 vs j q) rest hx (by omega))
                have cy4 := (hblk.cell (y * 6 + 4)).trans (flatR_at (G2 vs j q) rest hy (by omega))
                have cx5 := (hblk.cell (x * 6 + 5)).trans (flatR_at (G2 vs j q) rest hx (by omega))
                have cy5 := (hblk.cell (y * 6 + 5)).trans (flatR_at (G2 vs j q) rest hy (by omega))
                have kx4 := hblk.free (x * 6 + 4)
                have ky4 := hblk.free (y * 6 + 4)
                have kx5 := hblk.free (x * 6 + 5)
                have ky5 := hblk.free (y * 6 + 5)
                clear b1 hblk hbl
                obtain ⟨⟨p1, p2⟩, -, -, ⟨p3, p4⟩, ⟨p5, p6⟩⟩ := bx
                obtain ⟨⟨r1, r2⟩, -, -, ⟨r3, r4⟩, ⟨r5, r6⟩⟩ := byy
                revert cx1 cy1 cx4 cy4 cx5 cy5 p1 p2 p3 p4 p5 p6 r1 r2 r3 r4 r5 r6 HA
                generalize G2 vs j q x 1 = x1
                generalize G2 vs j q y 1 = y1
                generalize G2 vs j q x 4 = x4
                generalize G2 vs j q y 4 = y4
                generalize G2 vs j q x 5 = x5
                generalize G2 vs j q y 5 = y5
                intro HA cx1 cy1 cx4 cy4 cx5 cy5 p1 p2 p3 p4 p5 p6 r1 r2 r3 r4 r5 r6
                have u0 : 0 ≤ y1 * a2 := Int.mul_nonneg r1 z5
                have u1 : y1 * a2 ≤ 1200 := by
                  have := Int.mul_le_mul r2 z6 z5 (by omega : (0 : Int) ≤ 600)
                  omega
                have u2 : 0 ≤ x1 * (2 - a2) := Int.mul_nonneg p1 (by omega)
                have u3 : x1 * (2 - a2) ≤ 1200 := by
                  have := Int.mul_le_mul p2 (show 2 - a2 ≤ 2 by omega) (by omega) (by omega : (0 : Int) ≤ 600)
                  omega
                have hw0 : IntKind.i64.wrap (2 - a2) = 2 - a2 := IntWalk.i64_in _ (by omega)
                have hw1 : IntKind.i64.wrap (x4 + y1) = x4 + y1 := IntWalk.i64_in _ (by omega)
                have hw2 : IntKind.i64.wrap (y4 + x1) = y4 + x1 := IntWalk.i64_in _ (by omega)
                have hw3 : IntKind.i64.wrap (y1 * a2) = y1 * a2 := IntWalk.i64_in _ (by omega)
                have hw4 : IntKind.i64.wrap (x1 * (2 - a2)) = x1 * (2 - a2) := IntWalk.i64_in _ (by omega)
                have hw5 : IntKind.i64.wrap (x5 + y1 * a2) = x5 + y1 * a2 := IntWalk.i64_in _ (by omega)
                have hw6 : IntKind.i64.wrap (y5 + x1 * (2 - a2)) = y5 + x1 * (2 - a2) := IntWalk.i64_in _ (by omega)
                have n1 : y * 6 + 4 ≠ x * 6 + 4 := by omega
                have n2 : y * 6 + 1 ≠ x * 6 + 4 := by omega
                have n3 : x * 6 + 1 ≠ y * 6 + 4 := by omega
                have n4 : x * 6 + 5 ≠ y * 6 + 4 := by omega
                have n5 : y * 6 + 5 ≠ x * 6 + 4 := by omega
                have n6 : y * 6 + 5 ≠ x * 6 + 5 := by omega
                have n7 : x * 6 + 1 ≠ y * 6 + 5 := by omega
                have n8 : y * 6 + 1 ≠ x * 6 + 5 := by omega
                have n9 : x ≠ y := by omega
                have n10 : y ≠ x := by omega
                go_wp2_with fail
                go_region
                go_wp2_with fail
                go_region
                go_wp2_with fail
                go_region
                go_wp2_with fail
                go_region
                go_wp2_with fail
                go_roundw
                case rel =>
                  refine ⟨q + 1, by omega, by go_num, ?_, ?_⟩
                  · rw [HX.out, HA.out, ← flatR_set _ _ hy (by omega), ← flatR_set _ _ hx (by omega), ← flatR_set _ _ hy (by omega), ← flatR_set _ _ hx (by omega)]
                    exact Blk.set (Blk.set (Blk.set (Blk.set HBQ.out (x * 6 + 4) _) (y * 6 + 4) _) (x * 6 + 5) _) (y * 6 + 5) _
                  · have := HBL3.out
                    (repeat' (first | (with_reducible exact Below.refl _ _) | (with_reducible assumption) | (with_reducible refine Below.alloc ?_ ?_ _) | (with_reducible refine Below.drew ?_) | (with_reducible refine belowDrewN ?_ _) | (with_reducible refine Below.setCell ?_ ?_ _) | (with_reducible refine Below.via (by with_reducible assumption) ?_ ?_) | (with_reducible refine Below.viaD (by with_reducible assumption) ?_ ?_) | (with_reducible exact Below.size (by with_reducible assumption)) | go_size | (with_reducible refine Nat.le_trans ?_ (Below.size (by with_reducible assumption))) | (with_reducible refine Nat.le_trans ?_ (sizeAlloc _ _)) | (with_reducible refine Nat.le_trans ?_ (sizeSet _ _ _)) | (with_reducible refine Nat.le_trans ?_ (sizeDrew _))))
                case measure => first | (simp [intOf]; done) | (simp [intOf]; omega)
            · obtain rfl : q = j := by omega
              go_wp2_with fail
              go_ret
              refine ⟨g, cap, rfl, hg, ⟨by rw [flatF_len], fun _ => ⟨rfl, rest, ?_⟩⟩, HBL3.out⟩
              rw [← HFG.out]
              exact HBQ.out
end Go.Proofs.Ytlogcbiebpfmlaa
