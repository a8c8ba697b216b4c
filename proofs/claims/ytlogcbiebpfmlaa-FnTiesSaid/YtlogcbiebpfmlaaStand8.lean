/- Standings: ranks, by the reference. Conditions: bounds. -/
import Derived.Test.YtlogcbiebpfmlaaStand7
namespace Go.Proofs.Ytlogcbiebpfmlaa
set_option linter.unusedSimpArgs false
set_option linter.unusedVariables false
open Go.RowKit

set_option maxRecDepth 100000 in
set_option maxHeartbeats 2000000 in
theorem l26Ranks_any (n : Nat) (A : Option Addr) (c cp : Nat) (vs : List Value) (w : World) (hs : Sl w w.heap.size 4 A c vs) (ht : TypMatch vs c) (h2 : 2 ≤ n) (hn : n ≤ 12) (hc : c ≤ 150) (hz : okMs vs c n) :
    Calls Try.prog 20 #[.int .i64 n, .slice A c cp] w (RkPost n (F2 vs c c) w) := by
  have HR := Lib.hid (l26Rows_any n A c cp vs w hs ht h2 hn hc hz)
  have hbd := (F2_bd hz hc c (Nat.le_refl _)).mono (k1 := 1000000000) (k2 := 1000000000) (k3 := 1000000000) (k4 := 1000000000) (k5 := 1000000000) (by omega) (by omega) (by omega) (by omega) (by omega)
  have HBD := Lib.hid hbd
  obtain ⟨F, hF⟩ : ∃ F, F2 vs c c = F := ⟨_, rfl⟩
  rw [hF] at HR HBD ⊢
  clear hF hs ht hz hbd
  obtain ⟨i0, ti, tz0, tz1, tz2⟩ := info_parts info_int64k
  go_enter Try.func20, Try.ntmps20
  go_wp2_with fail
  with_reducible refine Calls.mono HR.out ?_
  rintro e w1 ⟨g, cap, rfl, hg, ho, hb1⟩
  obtain ⟨-, rest, hblk⟩ := ho.blk (by omega)
  have HK : Hid (Blk w1 g 54 (flatR n F rest)) := hblk
  have HB := Lib.hid hb1
  have hlt := hblk.lt
  clear hblk hb1 ho
  go_wp2_with fail
  go_loopw [6, 7] (fun v i wr => ∃ k : Nat, k ≤ n ∧ i = .int .i64 k ∧ wr.ownsRow w1.heap.size 2 1 v k (rkL F n k) ∧ Below w1.heap.size w1 wr) (fun _ i _ => n - (intOf i).toNat)
  case atStart => exact ⟨0, Nat.zero_le _, rfl, row_made1 rfl (Nat.le_refl _), by (repeat' (first | (with_reducible exact Below.refl _ _) | (with_reducible assumption) | (with_reducible refine Below.alloc ?_ ?_ _) | (with_reducible refine Below.drew ?_) | (with_reducible refine belowDrewN ?_ _) | (with_reducible refine Below.setCell ?_ ?_ _) | (with_reducible refine Below.via (by with_reducible assumption) ?_ ?_) | (with_reducible refine Below.viaD (by with_reducible assumption) ?_ ?_) | (with_reducible exact Below.size (by with_reducible assumption)) | go_size | (with_reducible refine Nat.le_trans ?_ (Below.size (by with_reducible assumption))) | (with_reducible refine Nat.le_trans ?_ (sizeAlloc _ _)) | (with_reducible refine Nat.le_trans ?_ (sizeSet _ _ _)) | (with_reducible refine Nat.le_trans ?_ (sizeDrew _))))⟩
  case round =>
    rename World => wo
    obtain ⟨k, hk, rfl, hown, hbl⟩ := hrel
    have HO := Lib.hid hown
    have HBL := Lib.hid hbl
    have hbs := hbl.size
    clear hown hbl
    by_cases hlk : k < n
    · go_wp2_with fail
      go_loopw [8, 9] (fun u i w2 => ∃ j : Nat, j ≤ n ∧ i = .int .i64 j ∧ u = .int .i64 (1 + cntB F k j) ∧ Below wo.heap.size wo w2) (fun _ i _ => n - (intOf i).toNat)
      case atStart => exact ⟨0, Nat.zero_le _, rfl, by simp [cntB], Below.refl _ _⟩
      case round =>
        obtain ⟨j, hj, rfl, rfl, hbl2⟩ := hrel
        have C := Below.via hbl2 HBL.out HBL.out.size
        have hkb := HK.out.later C
        have HC := Lib.hid C
        have HBL2 := Lib.hid hbl2
        by_cases hlj : j < n
        · have x1 := (hkb.cell (j * 6 + 1)).trans (flatR_at F rest hlj (by omega))
          have x2 := (hkb.cell (j * 6 + 2)).trans (flatR_at F rest hlj (by omega))
          have x4 := (hkb.cell (j * 6 + 4)).trans (flatR_at F rest hlj (by omega))
          have x5 := (hkb.cell (j * 6 + 5)).trans (flatR_at F rest hlj (by omega))
          have y1 := (hkb.cell (k * 6 + 1)).trans (flatR_at F rest hlk (by omega))
          have y2 := (hkb.cell (k * 6 + 2)).trans (flatR_at F rest hlk (by omega))
          have y4 := (hkb.cell (k * 6 + 4)).trans (flatR_at F rest hlk (by omega))
          have y5 := (hkb.cell (k * 6 + 5)).trans (flatR_at F rest hlk (by omega))
          obtain ⟨q, hq⟩ : ∃ q, btF F j k = q := ⟨_, rfl⟩
          obtain ⟨v, hv⟩ : ∃ v, cmV (F j 1) (F j 4) (F j 5) (F j 2) (F k 1) (F k 4) (F k 5) (F k 2) = v := ⟨_, rfl⟩
          have hvq : decide (0 < v) = q := by rw [← hv, cm_bt, ← hq]; rfl
          have HX : Hid (cntB F k (j + 1) = cntB F k j + (if q then 1 else 0)) := by unfold Hid; rw [cntB, hq]
          have bj := HBD.out j
          have bk := HBD.out k
          have HCM : Hid (∀ m, Calls Try.prog 33 #[.pointer (some ⟨g, j * 6, none⟩), .pointer (some ⟨g, k * 6, none⟩)] (wr.drewN m) fun e w' => e = .returned (.int .i64 v) ∧ ∃ m', w' = (wr.drewN m).drewN m') := fun m => l26Compare_any g (j * 6) (k * 6) (F j 1) (F j 2) (F j 4) (F j 5) (F k 1) (F k 2) (F k 4) (F k 5) v (wr.drewN m) x1 x2 x4 x5 y1 y2 y4 y5 bj.1 bj.2.1 bj.2.2.2.1 bj.2.2.2.2 bk.1 bk.2.1 bk.2.2.2.1 bk.2.2.2.2 hv
          obtain ⟨u0, u1⟩ := cntB_bd F k j
          clear hq hv x1 x2 x4 x5 y1 y2 y4 y5 bj bk C hkb hbl2
          revert u0 u1 HX
          generalize cntB F k j = u
          intro HX u0 u1
          cases q
          case true =>
            have hpos : 0 < v := of_decide_eq_true hvq
            have HX2 : Hid (cntB F k (j + 1) = u + 1) := by unfold Hid; rw [HX.out]; rfl
            go_wp2_with fail
            first | (refine wp_region_quiet_lit (by kernel_rfl) (by kernel_rfl) ?_; refine WQ.of ?_; (repeat (refine WQ.step (fun K hK => ?_); go_simp; first | (refine hK _ ?_; clear hK K) | (apply Exists.intro; refine ⟨fun _ => ?_, hK _ ?_⟩; ((go_at_call 33; (with_reducible exact Calls.quiet_of (HCM.out _)))); clear hK K))); refine WQ.nil ?_; intro _ hw'; obtain ⟨nq, hw''⟩ := hw'; subst hw'') | go_quiet ((go_at_call 33; (with_reducible exact Calls.quiet_of (HCM.out _))))
            go_wp2_with fail
            go_roundw
            case rel => exact ⟨j + 1, by omega, by go_num, by rw [HX2.out]; exact congrArg (Value.int .i64) (by omega), by have := HBL2.out; (repeat' (first | (with_reducible exact Below.refl _ _) | (with_reducible assumption) | (with_reducible refine Below.alloc ?_ ?_ _) | (with_reducible refine Below.drew ?_) | (with_reducible refine belowDrewN ?_ _) | (with_reducible refine Below.setCell ?_ ?_ _) | (with_reducible refine Below.via (by with_reducible assumption) ?_ ?_) | (with_reducible refine Below.viaD (by with_reducible assumption) ?_ ?_) | (with_reducible exact Below.size (by with_reducible assumption)) | go_size | (with_reducible refine Nat.le_trans ?_ (Below.size (by with_reducible assumption))) | (with_reducible refine Nat.le_trans ?_ (sizeAlloc _ _)) | (with_reducible refine Nat.le_trans ?_ (sizeSet _ _ _)) | (with_reducible refine Nat.le_trans ?_ (sizeDrew _))))⟩
            case measure => first | (simp [intOf]; done) | (simp [intOf]; omega)
          case false =>
            have hpos : ¬ 0 < v := of_decide_eq_false hvq
            have HX2 : Hid (cntB F k (j + 1) = u) := by unfold Hid; rw [HX.out]; simp
            go_wp2_with fail
            first | (refine wp_region_quiet_lit (by kernel_rfl) (by kernel_rfl) ?_; refine WQ.of ?_; (repeat (refine WQ.step (fun K hK => ?_); go_simp; first | (refine hK _ ?_; clear hK K) | (apply Exists.intro; refine ⟨fun _ => ?_, hK _ ?_⟩; ((go_at_call 33; (with_reducible exact Calls.quiet_of (HCM.out _)))); clear hK K))); refine WQ.nil ?_; intro _ hw'; obtain ⟨nq, hw''⟩ := hw'; subst hw'') | go_quiet ((go_at_call 33; (with_reducible exact Calls.quiet_of (HCM.out _))))
            go_wp2_with fail
            go_roundw
            case rel => exact ⟨j + 1, by omega, by go_num, by rw [HX2.out], by have := HBL2.out; (repeat' (first | (with_reducible exact Below.refl _ _) | (with_reducible assumption) | (with_reducible refine Below.alloc ?_ ?_ _) | (with_reducible refine Below.drew ?_) | (with_reducible refine belowDrewN ?_ _) | (with_reducible refine Below.setCell ?_ ?_ _) | (with_reducible refine Below.via (by with_reducible assumption) ?_ ?_) | (with_reducible refine Below.viaD (by with_reducible assumption) ?_ ?_) | (with_reducible exact Below.size (by with_reducible assumption)) | go_size | (with_reducible refine Nat.le_trans ?_ (Below.size (by with_reducible assumption))) | (with_reducible refine Nat.le_trans ?_ (sizeAlloc _ _)) | (with_reducible refine Nat.le_trans ?_ (sizeSet _ _ _)) | (with_reducible refine Nat.le_trans ?_ (sizeDrew _))))⟩
            case measure => first | (simp [intOf]; done) | (simp [intOf]; omega)
        · obtain rfl : j = n := by omega
          have hro := row_below HO.out hbl2
          have HRO := Lib.hid hro
          have hrs := C.size
          clear hkb hbl2 C hro
          go_wp2_with (at_builtin; refine wpList_append_sl _ rfl _ _ 27 rfl w1.heap.size 2 i0 _ 1 8 Try.underlying27 ti tz0 tz1 tz2 rfl (by decide) _ k (rkL F j k) rfl (HRO.out.alloc _) (wr.heap.size + 1) _ 1 1 [.int .i64 (1 + cntB F k j)] rfl (Sl.built (by simp) (by simp) rfl) ?c1 ?c2 ?c3 ?c4 ?_)
          case c1 => intro u hu; simp at hu; subst hu; rfl
          case c2 => unfold maxLen; omega
          case c3 => omega
          case c4 => first | (simp; done) | (simp; omega)
          intro v' w4 hown4 hg4 _
          have hbn : Below w1.heap.size w1 w4 := below_app (by have := HC.out; (repeat' (first | (with_reducible exact Below.refl _ _) | (with_reducible assumption) | (with_reducible refine Below.alloc ?_ ?_ _) | (with_reducible refine Below.drew ?_) | (with_reducible refine belowDrewN ?_ _) | (with_reducible refine Below.setCell ?_ ?_ _) | (with_reducible refine Below.via (by with_reducible assumption) ?_ ?_) | (with_reducible refine Below.viaD (by with_reducible assumption) ?_ ?_) | (with_reducible exact Below.size (by with_reducible assumption)) | go_size | (with_reducible refine Nat.le_trans ?_ (Below.size (by with_reducible assumption))) | (with_reducible refine Nat.le_trans ?_ (sizeAlloc _ _)) | (with_reducible refine Nat.le_trans ?_ (sizeSet _ _ _)) | (with_reducible refine Nat.le_trans ?_ (sizeDrew _))))) (HRO.out.alloc _) hg4 (Nat.le_refl _) (by simp; omega)
          have HO4 := Lib.hid hown4
          clear hown4 hg4
          go_wp2_with fail
          go_roundw
          case rel => exact ⟨k + 1, by omega, by go_num, by rw [rkL_snoc]; exact HO4.out, hbn⟩
          case measure => first | (simp [intOf]; done) | (simp [intOf]; omega)
    · obtain rfl : k = n := by omega
      obtain ⟨A', g', cap', rfl, hg', hnc, hcm, ho'⟩ := own_of_row HO.out
      go_wp2_with fail
      go_ret
      exact ⟨A', g', cap', rfl, Nat.le_trans HB.out.size hg', ho', Below.via HBL.out HB.out HB.out.size⟩
end Go.Proofs.Ytlogcbiebpfmlaa
