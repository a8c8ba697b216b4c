/- The laws' own copies and comparisons of lists of Match. Conditions: lengths below 2^20. -/
import Derived.Test.YtencndbckjejaaaApp
namespace Go.Proofs.Ytencndbckjejaaa
set_option linter.unusedSimpArgs false
set_option linter.unusedVariables false
open Go.RowKit

/-- Each element has fields of its kinds. -/
def TypMatch (vs : List Value) (n : Nat) : Prop := ∀ k, k < n → ∃ (a0 : Int) (a1 : Int) (a2 : Int) (a3 : Bool), vs[k * 4]? = some (.int .i64 a0) ∧ vs[k * 4 + 1]? = some (.int .i64 a1) ∧ vs[k * 4 + 2]? = some (.int .i64 a2) ∧ vs[k * 4 + 3]? = some (.bool a3)
theorem toMatch_any (a0 : Int) (a1 : Int) (a2 : Int) (a3 : Bool) (w : World) : Calls Try.prog 38 #[.agg #[.int .i64 a0, .int .i64 a1, .int .i64 a2, .bool a3]] w fun e w' => e = .returned (.agg #[.int .i64 a0, .int .i64 a1, .int .i64 a2, .bool a3]) ∧ Below w.heap.size w w' := by
  go_enter Try.func38, Try.ntmps38
  go_wp2
  go_returns
  exact ⟨rfl, by (repeat' (first | (with_reducible exact Below.refl _ _) | (with_reducible assumption) | (with_reducible refine Below.alloc ?_ ?_ _) | (with_reducible refine Below.drew ?_) | (with_reducible refine belowDrewN ?_ _) | (with_reducible refine Below.setCell ?_ ?_ _) | (with_reducible refine Below.via (by with_reducible assumption) ?_ ?_) | (with_reducible refine Below.viaD (by with_reducible assumption) ?_ ?_) | (with_reducible exact Below.size (by with_reducible assumption)) | go_size | (with_reducible refine Nat.le_trans ?_ (Below.size (by with_reducible assumption))) | (with_reducible refine Nat.le_trans ?_ (sizeAlloc _ _)) | (with_reducible refine Nat.le_trans ?_ (sizeSet _ _ _)) | (with_reducible refine Nat.le_trans ?_ (sizeDrew _))))⟩
theorem eqMatch_same (a0 : Int) (a1 : Int) (a2 : Int) (a3 : Bool) (w : World) : Calls Try.prog 41 #[.agg #[.int .i64 a0, .int .i64 a1, .int .i64 a2, .bool a3], .agg #[.int .i64 a0, .int .i64 a1, .int .i64 a2, .bool a3]] w fun e w' => e = .returned (.bool true) ∧ Below w.heap.size w w' := by
  go_enter Try.func41, Try.ntmps41
  go_wp2
  go_ret
  exact ⟨rfl, by (repeat' (first | (with_reducible exact Below.refl _ _) | (with_reducible assumption) | (with_reducible refine Below.alloc ?_ ?_ _) | (with_reducible refine Below.drew ?_) | (with_reducible refine belowDrewN ?_ _) | (with_reducible refine Below.setCell ?_ ?_ _) | (with_reducible refine Below.via (by with_reducible assumption) ?_ ?_) | (with_reducible refine Below.viaD (by with_reducible assumption) ?_ ?_) | (with_reducible exact Below.size (by with_reducible assumption)) | go_size | (with_reducible refine Nat.le_trans ?_ (Below.size (by with_reducible assumption))) | (with_reducible refine Nat.le_trans ?_ (sizeAlloc _ _)) | (with_reducible refine Nat.le_trans ?_ (sizeSet _ _ _)) | (with_reducible refine Nat.le_trans ?_ (sizeDrew _))))⟩
theorem info_Match : (Try.prog.info? 54).map (fun i => (i.zero, i.size, i.bytes)) = some (some (.agg #[Value.int .i64 0, .int .i64 0, .int .i64 0, .bool false]), 4, 32) := by kernel_rfl
set_option maxHeartbeats 1000000 in
theorem toMatchS_any (A : Option Addr) (n c : Nat) (vs : List Value) (w : World) (hs : Sl w w.heap.size 4 A n vs) (ht : TypMatch vs n) (hn : n ≤ 1048576) :
    Calls Try.prog 12 #[.slice A n c] w fun e w' => e = .returned (.slice (some ⟨w.heap.size, 0, none⟩) n n) ∧ Blk w' w.heap.size 54 vs.toArray ∧ Below w.heap.size w w' := by
  obtain ⟨i0, hi, hz0, hz1, hz2⟩ := info_parts info_Match
  have HL := Lib.hid hs.len
  have HT := Lib.hid ht; clear ht
  have hmk := fun W => run_makeN (P := Try.prog) 25 54 i0 (.agg #[Value.int .i64 0, .int .i64 0, .int .i64 0, .bool false]) Try.underlying25 hi hz0 .i64 .i64 n n (Nat.le_refl _) (by rw [hz2]; omega) (by omega) W
  rw [hz1] at hmk
  obtain ⟨ds, hds, hdl⟩ : ∃ ds : List Value, (madeCells (Value.agg #[Value.int .i64 0, .int .i64 0, .int .i64 0, .bool false]).cells (n * 4)) = ds.toArray ∧ ds.length = n * 4 := ⟨(madeCells (Value.agg #[Value.int .i64 0, .int .i64 0, .int .i64 0, .bool false]).cells (n * 4)).toList, rfl, by rw [Array.length_toList, size_madeCells]⟩
  rw [hds] at hmk
  have HD : Hid (ds.length = vs.length) := by unfold Hid; rw [hdl, HL.out]
  clear hds hi hz0 hz1 hz2 hdl
  go_enter Try.func12, Try.ntmps12
  go_wp2
  go_loopw [4] (fun i wr => ∃ k : Nat, k ≤ n ∧ i = .int .i64 k ∧ Blk wr w.heap.size 54 (halfV ds vs (k * 4)) ∧ Below w.heap.size w wr) (fun i _ => n - (intOf i).toNat)
  case atStart => exact ⟨0, Nat.zero_le _, rfl, by rw [Nat.zero_mul, halfV_zero]; exact Blk.new _ _ _, by (repeat' (first | (with_reducible exact Below.refl _ _) | (with_reducible assumption) | (with_reducible refine Below.alloc ?_ ?_ _) | (with_reducible refine Below.drew ?_) | (with_reducible refine belowDrewN ?_ _) | (with_reducible refine Below.setCell ?_ ?_ _) | (with_reducible refine Below.via (by with_reducible assumption) ?_ ?_) | (with_reducible refine Below.viaD (by with_reducible assumption) ?_ ?_) | (with_reducible exact Below.size (by with_reducible assumption)) | go_size | (with_reducible refine Nat.le_trans ?_ (Below.size (by with_reducible assumption))) | (with_reducible refine Nat.le_trans ?_ (sizeAlloc _ _)) | (with_reducible refine Nat.le_trans ?_ (sizeSet _ _ _)) | (with_reducible refine Nat.le_trans ?_ (sizeDrew _))))⟩
  case round =>
    obtain ⟨k, hk, rfl, hblk, hbl⟩ := hrel
    have hgl := hblk.lt
    by_cases hlt : k < n
    · obtain ⟨b, off, rfl, hb, hl, hc⟩ := (hs.below hbl).cellV hlt
      obtain ⟨a0, a1, a2, a3, v0, v1, v2, v3⟩ := HT.out k hlt
      have hc0 := hc 0 _ (by omega) (by simpa using v0)
      have HV0 := Lib.hid v0
      have hc1 := hc 1 _ (by omega) (by simpa using v1)
      have HV1 := Lib.hid v1
      have hc2 := hc 2 _ (by omega) (by simpa using v2)
      have HV2 := Lib.hid v2
      have hc3 := hc 3 _ (by omega) (by simpa using v3)
      have HV3 := Lib.hid v3
      rw [Nat.add_zero] at hc0
      rw [← Nat.add_assoc] at hc1
      rw [← Nat.add_assoc] at hc2
      rw [← Nat.add_assoc] at hc3
      clear hc hl v0 v1 v2 v3
      have hkl : k * 4 + 4 ≤ vs.length := by rw [HL.out, ← Nat.succ_mul]; exact Nat.mul_le_mul_right _ hlt
      obtain ⟨d0, hd0⟩ : ∃ d, ds[(k * 4)]? = some d := ⟨_, List.getElem?_eq_getElem (by rw [HD.out]; omega)⟩
      have k0 : (halfV ds vs (k * 4))[(k * 4)]? = some d0 := (halfV_get HD.out (by omega) (by omega)).trans hd0
      have HK0 := Lib.hid k0; clear k0 hd0
      obtain ⟨d1, hd1⟩ : ∃ d, ds[(k * 4 + 1)]? = some d := ⟨_, List.getElem?_eq_getElem (by rw [HD.out]; omega)⟩
      have k1 : (halfV ds vs (k * 4))[(k * 4 + 1)]? = some d1 := (halfV_get HD.out (by omega) (by omega)).trans hd1
      have HK1 := Lib.hid k1; clear k1 hd1
      obtain ⟨d2, hd2⟩ : ∃ d, ds[(k * 4 + 2)]? = some d := ⟨_, List.getElem?_eq_getElem (by rw [HD.out]; omega)⟩
      have k2 : (halfV ds vs (k * 4))[(k * 4 + 2)]? = some d2 := (halfV_get HD.out (by omega) (by omega)).trans hd2
      have HK2 := Lib.hid k2; clear k2 hd2
      obtain ⟨d3, hd3⟩ : ∃ d, ds[(k * 4 + 3)]? = some d := ⟨_, List.getElem?_eq_getElem (by rw [HD.out]; omega)⟩
      have k3 : (halfV ds vs (k * 4))[(k * 4 + 3)]? = some d3 := (halfV_get HD.out (by omega) (by omega)).trans hd3
      have HK3 := Lib.hid k3; clear k3 hd3
      go_wp2_with (go_at_call 38; refine (toMatch_any _ _ _ _ _).mono ?_; rintro e w1 ⟨rfl, hb1⟩; have hq := hblk.later hb1; have q0 := (hq.cell (k * 4)).trans HK0.out; have q1 := (hq.cell (k * 4 + 1)).trans HK1.out; have q2 := (hq.cell (k * 4 + 2)).trans HK2.out; have q3 := (hq.cell (k * 4 + 3)).trans HK3.out; have f0 := hq.free (k * 4); have f1 := hq.free (k * 4 + 1); have f2 := hq.free (k * 4 + 2); have f3 := hq.free (k * 4 + 3); have HQ := Lib.hid hq; clear hq)
      go_roundw
      case rel =>
        have hset : halfV ds vs ((k + 1) * 4) = ((((halfV ds vs (k * 4)).setIfInBounds (k * 4) (.int .i64 a0)).setIfInBounds (k * 4 + 1) (.int .i64 a1)).setIfInBounds (k * 4 + 2) (.int .i64 a2)).setIfInBounds (k * 4 + 3) (.bool a3) := by
          rw [halfV_set HD.out HV0.out, halfV_set HD.out HV1.out, halfV_set HD.out HV2.out, halfV_set HD.out HV3.out, Nat.succ_mul]
        exact ⟨k + 1, by omega, by go_num, by rw [hset]; exact (Blk.set (Blk.set (Blk.set (Blk.set HQ.out (k * 4) (.int .i64 a0)) (k * 4 + 1) (.int .i64 a1)) (k * 4 + 2) (.int .i64 a2)) (k * 4 + 3) (.bool a3)), by (repeat' (first | (with_reducible exact Below.refl _ _) | (with_reducible assumption) | (with_reducible refine Below.alloc ?_ ?_ _) | (with_reducible refine Below.drew ?_) | (with_reducible refine belowDrewN ?_ _) | (with_reducible refine Below.setCell ?_ ?_ _) | (with_reducible refine Below.via (by with_reducible assumption) ?_ ?_) | (with_reducible refine Below.viaD (by with_reducible assumption) ?_ ?_) | (with_reducible exact Below.size (by with_reducible assumption)) | go_size | (with_reducible refine Nat.le_trans ?_ (Below.size (by with_reducible assumption))) | (with_reducible refine Nat.le_trans ?_ (sizeAlloc _ _)) | (with_reducible refine Nat.le_trans ?_ (sizeSet _ _ _)) | (with_reducible refine Nat.le_trans ?_ (sizeDrew _))))⟩
      case measure => first | (simp [intOf]; done) | (simp [intOf]; omega)
    · obtain rfl : k = n := by omega
      go_wp2
      go_ret
      exact ⟨rfl, by rw [← halfV_all HD.out, HL.out]; exact hblk, by (repeat' (first | (with_reducible exact Below.refl _ _) | (with_reducible assumption) | (with_reducible refine Below.alloc ?_ ?_ _) | (with_reducible refine Below.drew ?_) | (with_reducible refine belowDrewN ?_ _) | (with_reducible refine Below.setCell ?_ ?_ _) | (with_reducible refine Below.via (by with_reducible assumption) ?_ ?_) | (with_reducible refine Below.viaD (by with_reducible assumption) ?_ ?_) | (with_reducible exact Below.size (by with_reducible assumption)) | go_size | (with_reducible refine Nat.le_trans ?_ (Below.size (by with_reducible assumption))) | (with_reducible refine Nat.le_trans ?_ (sizeAlloc _ _)) | (with_reducible refine Nat.le_trans ?_ (sizeSet _ _ _)) | (with_reducible refine Nat.le_trans ?_ (sizeDrew _))))⟩
set_option maxHeartbeats 1000000 in
theorem eqMatchS_same (A A' : Option Addr) (n c c' : Nat) (vs : List Value) (w : World) (hs : Sl w w.heap.size 4 A n vs) (hs' : Sl w w.heap.size 4 A' n vs) (ht : TypMatch vs n) (hn : n ≤ 9223372036854775807) :
    Calls Try.prog 14 #[.slice A n c, .slice A' n c'] w fun e w' => e = .returned (.bool true) ∧ Below w.heap.size w w' := by
  have HT := Lib.hid ht; clear ht
  go_enter Try.func14, Try.ntmps14
  go_wp2
  go_loopw [5] (fun i wr => ∃ k : Nat, k ≤ n ∧ i = .int .i64 k ∧ Below w.heap.size w wr) (fun i _ => n - (intOf i).toNat)
  case atStart => exact ⟨0, Nat.zero_le _, rfl, Below.refl _ _⟩
  case round =>
    obtain ⟨k, hk, rfl, hbl⟩ := hrel
    by_cases hlt : k < n
    · obtain ⟨b, off, rfl, hb, hl, hc⟩ := (hs.below hbl).cellV hlt
      obtain ⟨b', off', rfl, hb', hl', hc'⟩ := (hs'.below hbl).cellV hlt
      obtain ⟨a0, a1, a2, a3, v0, v1, v2, v3⟩ := HT.out k hlt
      have hx0 := hc 0 _ (by omega) (by simpa using v0)
      have hy0 := hc' 0 _ (by omega) (by simpa using v0)
      have hx1 := hc 1 _ (by omega) (by simpa using v1)
      have hy1 := hc' 1 _ (by omega) (by simpa using v1)
      have hx2 := hc 2 _ (by omega) (by simpa using v2)
      have hy2 := hc' 2 _ (by omega) (by simpa using v2)
      have hx3 := hc 3 _ (by omega) (by simpa using v3)
      have hy3 := hc' 3 _ (by omega) (by simpa using v3)
      rw [Nat.add_zero] at hx0 hy0
      rw [← Nat.add_assoc] at hx1 hy1
      rw [← Nat.add_assoc] at hx2 hy2
      rw [← Nat.add_assoc] at hx3 hy3
      clear hc hl hc' hl' v0 v1 v2 v3
      go_wp2_with fail
      go_region_with ((go_at_call 41; refine (eqMatch_same _ _ _ _ _).mono ?_; rintro e w1 ⟨rfl, hb1⟩))
      all_goals
        go_wp2_with fail
        go_roundw
        case rel => exact ⟨k + 1, by omega, by go_num, by (repeat' (first | (with_reducible exact Below.refl _ _) | (with_reducible assumption) | (with_reducible refine Below.alloc ?_ ?_ _) | (with_reducible refine Below.drew ?_) | (with_reducible refine belowDrewN ?_ _) | (with_reducible refine Below.setCell ?_ ?_ _) | (with_reducible refine Below.via (by with_reducible assumption) ?_ ?_) | (with_reducible refine Below.viaD (by with_reducible assumption) ?_ ?_) | (with_reducible exact Below.size (by with_reducible assumption)) | go_size | (with_reducible refine Nat.le_trans ?_ (Below.size (by with_reducible assumption))) | (with_reducible refine Nat.le_trans ?_ (sizeAlloc _ _)) | (with_reducible refine Nat.le_trans ?_ (sizeSet _ _ _)) | (with_reducible refine Nat.le_trans ?_ (sizeDrew _))))⟩
        case measure => first | (simp [intOf]; done) | (simp [intOf]; omega)
    · obtain rfl : k = n := by omega
      go_wp2
      go_ret
      exact ⟨rfl, by (repeat' (first | (with_reducible exact Below.refl _ _) | (with_reducible assumption) | (with_reducible refine Below.alloc ?_ ?_ _) | (with_reducible refine Below.drew ?_) | (with_reducible refine belowDrewN ?_ _) | (with_reducible refine Below.setCell ?_ ?_ _) | (with_reducible refine Below.via (by with_reducible assumption) ?_ ?_) | (with_reducible refine Below.viaD (by with_reducible assumption) ?_ ?_) | (with_reducible exact Below.size (by with_reducible assumption)) | go_size | (with_reducible refine Nat.le_trans ?_ (Below.size (by with_reducible assumption))) | (with_reducible refine Nat.le_trans ?_ (sizeAlloc _ _)) | (with_reducible refine Nat.le_trans ?_ (sizeSet _ _ _)) | (with_reducible refine Nat.le_trans ?_ (sizeDrew _))))⟩
theorem szMatchS_le (A : Option Addr) (n c : Nat) (left : Int) (w : World) (h1 : (n : Int) ≤ left) (h2 : left ≤ 1048576) : Calls Try.prog 10 #[.slice A n c, .int .i64 left] w fun e w' => e = .returned (.int .i64 (left - n)) ∧ w = w' := by
  go_enter Try.func10, Try.ntmps10
  go_wp2
  go_ret
  exact ⟨rfl, rfl⟩
theorem szMatchS_gt (A : Option Addr) (n c : Nat) (left : Int) (w : World) (h1 : left < (n : Int)) (h2 : 0 ≤ left) (hn : n ≤ 9223372036854775807) : Calls Try.prog 10 #[.slice A n c, .int .i64 left] w fun e w' => e = .returned (.int .i64 (-1)) ∧ w = w' := by
  go_enter Try.func10, Try.ntmps10
  go_wp2
  go_ret
  exact ⟨rfl, rfl⟩
end Go.Proofs.Ytencndbckjejaaa
