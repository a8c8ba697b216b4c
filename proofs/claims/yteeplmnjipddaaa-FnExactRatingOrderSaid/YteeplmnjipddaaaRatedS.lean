/- The laws' own copies, comparisons and marks of lists of Rated. Conditions: lengths below 2^20. -/
import Derived.Test.YteeplmnjipddaaaFlat
namespace Go.Proofs.Yteeplmnjipddaaa
set_option linter.unusedSimpArgs false
set_option linter.unusedVariables false
open Go.RowKit

theorem toRatedC_any (a0 a1 : Int) (w : World) : Calls Try.prog 30 #[.agg #[.int .i64 a0, .int .i64 a1]] w fun e w' => e = .returned (.agg #[.int .i64 a0, .int .i64 a1]) ∧ Below w.heap.size w w' := by
  go_enter Try.func30, Try.ntmps30
  go_wp2
  go_returns
  exact ⟨rfl, by (repeat' (first | (with_reducible exact Below.refl _ _) | (with_reducible assumption) | (with_reducible refine Below.alloc ?_ ?_ _) | (with_reducible refine Below.drew ?_) | (with_reducible refine belowDrewN ?_ _) | (with_reducible refine Below.setCell ?_ ?_ _) | (with_reducible refine Below.via (by with_reducible assumption) ?_ ?_) | (with_reducible refine Below.viaD (by with_reducible assumption) ?_ ?_) | (with_reducible exact Below.size (by with_reducible assumption)) | go_size | (with_reducible refine Nat.le_trans ?_ (Below.size (by with_reducible assumption))) | (with_reducible refine Nat.le_trans ?_ (sizeAlloc _ _)) | (with_reducible refine Nat.le_trans ?_ (sizeSet _ _ _)) | (with_reducible refine Nat.le_trans ?_ (sizeDrew _))))⟩
theorem eqRated_any (a0 a1 b0 b1 : Int) (w : World) : Calls Try.prog 34 #[.agg #[.int .i64 a0, .int .i64 a1], .agg #[.int .i64 b0, .int .i64 b1]] w fun e w' => e = .returned (.bool (eqL [a0, a1] [b0, b1])) ∧ Below w.heap.size w w' := by
  by_cases h0 : a0 = b0
  case neg =>
    have q0 : (a0 == b0) = false := beq_eq_false_iff_ne.2 h0
    have HE := Lib.hid (show eqL [a0, a1] [b0, b1] = false by simp [eqL, h0])
    go_enter Try.func34, Try.ntmps34
    go_wp2
    go_ret
    exact ⟨by rw [HE.out]; rfl, by (repeat' (first | (with_reducible exact Below.refl _ _) | (with_reducible assumption) | (with_reducible refine Below.alloc ?_ ?_ _) | (with_reducible refine Below.drew ?_) | (with_reducible refine belowDrewN ?_ _) | (with_reducible refine Below.setCell ?_ ?_ _) | (with_reducible refine Below.via (by with_reducible assumption) ?_ ?_) | (with_reducible refine Below.viaD (by with_reducible assumption) ?_ ?_) | (with_reducible exact Below.size (by with_reducible assumption)) | go_size | (with_reducible refine Nat.le_trans ?_ (Below.size (by with_reducible assumption))) | (with_reducible refine Nat.le_trans ?_ (sizeAlloc _ _)) | (with_reducible refine Nat.le_trans ?_ (sizeSet _ _ _)) | (with_reducible refine Nat.le_trans ?_ (sizeDrew _))))⟩
  case pos =>
    subst h0
    by_cases h1 : a1 = b1
    case neg =>
      have q1 : (a1 == b1) = false := beq_eq_false_iff_ne.2 h1
      have HE := Lib.hid (show eqL [a0, a1] [a0, b1] = false by simp [eqL, h1])
      go_enter Try.func34, Try.ntmps34
      go_wp2
      go_ret
      exact ⟨by rw [HE.out]; rfl, by (repeat' (first | (with_reducible exact Below.refl _ _) | (with_reducible assumption) | (with_reducible refine Below.alloc ?_ ?_ _) | (with_reducible refine Below.drew ?_) | (with_reducible refine belowDrewN ?_ _) | (with_reducible refine Below.setCell ?_ ?_ _) | (with_reducible refine Below.via (by with_reducible assumption) ?_ ?_) | (with_reducible refine Below.viaD (by with_reducible assumption) ?_ ?_) | (with_reducible exact Below.size (by with_reducible assumption)) | go_size | (with_reducible refine Nat.le_trans ?_ (Below.size (by with_reducible assumption))) | (with_reducible refine Nat.le_trans ?_ (sizeAlloc _ _)) | (with_reducible refine Nat.le_trans ?_ (sizeSet _ _ _)) | (with_reducible refine Nat.le_trans ?_ (sizeDrew _))))⟩
    case pos =>
      subst h1
      have HE := Lib.hid (eqL_self [a0, a1])
      go_enter Try.func34, Try.ntmps34
      go_wp2
      go_ret
      exact ⟨by rw [HE.out]; rfl, by (repeat' (first | (with_reducible exact Below.refl _ _) | (with_reducible assumption) | (with_reducible refine Below.alloc ?_ ?_ _) | (with_reducible refine Below.drew ?_) | (with_reducible refine belowDrewN ?_ _) | (with_reducible refine Below.setCell ?_ ?_ _) | (with_reducible refine Below.via (by with_reducible assumption) ?_ ?_) | (with_reducible refine Below.viaD (by with_reducible assumption) ?_ ?_) | (with_reducible exact Below.size (by with_reducible assumption)) | go_size | (with_reducible refine Nat.le_trans ?_ (Below.size (by with_reducible assumption))) | (with_reducible refine Nat.le_trans ?_ (sizeAlloc _ _)) | (with_reducible refine Nat.le_trans ?_ (sizeSet _ _ _)) | (with_reducible refine Nat.le_trans ?_ (sizeDrew _))))⟩
theorem info_Rated : (Try.prog.info? 55).map (fun i => (i.zero, i.size, i.bytes)) = some (some (.agg #[.int .i64 0, .int .i64 0]), 2, 16) := by kernel_rfl
set_option maxHeartbeats 1000000 in
theorem toRatedS_any (A : Option Addr) (n c : Nat) (zs : List Int) (w : World) (hs : Sl w w.heap.size 2 A n (zs.map (Value.int .i64))) (hn : n ≤ 1048576) :
    Calls Try.prog 8 #[.slice A n c] w fun e w' => e = .returned (.slice (some ⟨w.heap.size, 0, none⟩) n n) ∧ Blk w' w.heap.size 55 (zs.map (Value.int .i64)).toArray ∧ Below w.heap.size w w' := by
  obtain ⟨i0, hi, hz0, hz1, hz2⟩ := info_parts info_Rated
  have HL : Hid (zs.length = n * 2) := by unfold Hid; have := hs.1; simpa using this
  have hmk := fun W => run_makeN (P := Try.prog) 27 55 i0 (.agg #[.int .i64 0, .int .i64 0]) Try.underlying27 hi hz0 .i64 .i64 n n (Nat.le_refl _) (by rw [hz2]; omega) (by omega) W
  rw [hz1] at hmk
  have hmm : (Value.agg #[.int .i64 0, .int .i64 0]).cells = (List.replicate 2 (Value.int .i64 0)).toArray := rfl
  rw [hmm, made_many _ _ (by omega)] at hmk
  clear hmm hi hz0 hz1 hz2
  go_enter Try.func8, Try.ntmps8
  go_wp2
  go_loopw [4] (fun i wr => ∃ k : Nat, k ≤ n ∧ i = .int .i64 k ∧ Blk wr w.heap.size 55 (half zs (k * 2)) ∧ Below w.heap.size w wr) (fun i _ => n - (intOf i).toNat)
  case atStart => exact ⟨0, Nat.zero_le _, rfl, by rw [Nat.zero_mul, ← half_zero, made_one, HL.out]; exact Blk.new _ _ _, by (repeat' (first | (with_reducible exact Below.refl _ _) | (with_reducible assumption) | (with_reducible refine Below.alloc ?_ ?_ _) | (with_reducible refine Below.drew ?_) | (with_reducible refine belowDrewN ?_ _) | (with_reducible refine Below.setCell ?_ ?_ _) | (with_reducible refine Below.via (by with_reducible assumption) ?_ ?_) | (with_reducible refine Below.viaD (by with_reducible assumption) ?_ ?_) | (with_reducible exact Below.size (by with_reducible assumption)) | go_size | (with_reducible refine Nat.le_trans ?_ (Below.size (by with_reducible assumption))) | (with_reducible refine Nat.le_trans ?_ (sizeAlloc _ _)) | (with_reducible refine Nat.le_trans ?_ (sizeSet _ _ _)) | (with_reducible refine Nat.le_trans ?_ (sizeDrew _))))⟩
  case round =>
    obtain ⟨k, hk, rfl, hblk, hbl⟩ := hrel
    have hgl := hblk.lt
    by_cases hlt : k < n
    · obtain ⟨b, off, rfl, hb, hl, hc⟩ := (hs.below hbl).cellAt hlt
      obtain ⟨z0, hz0⟩ : ∃ z, zs.getD (k * 2) 0 = z := ⟨_, rfl⟩
      have HZ0 := Lib.hid hz0
      have hc0 := hc 0 (by omega)
      rw [Nat.add_zero, hz0] at hc0
      obtain ⟨z1, hz1⟩ : ∃ z, zs.getD (k * 2 + 1) 0 = z := ⟨_, rfl⟩
      have HZ1 := Lib.hid hz1
      have hc1 := hc 1 (by omega)
      rw [hz1] at hc1
      rw [← Nat.add_assoc] at hc1
      clear hc hz0 hz1
      have HB := Lib.hid hl; clear hl
      have hkl : k * 2 + 2 ≤ zs.length := by rw [HB.out, ← Nat.succ_mul]; exact Nat.mul_le_mul_right _ hlt
      go_wp2_with (go_at_call 30; refine (toRatedC_any _ _ _).mono ?_; rintro e w1 ⟨rfl, hb1⟩; have hq := hblk.later hb1; have k0 := (hq.cell (k * 2)).trans (half_later zs (k * 2) (k * 2) (by omega) (by omega)); have k1 := (hq.cell (k * 2 + 1)).trans (half_later zs (k * 2) (k * 2 + 1) (by omega) (by omega)); have f0 := hq.free (k * 2); have f1 := hq.free (k * 2 + 1); have HQ := Lib.hid hq; clear hq)
      go_roundw
      case rel =>
        have hset : half zs ((k + 1) * 2) = ((half zs (k * 2)).setIfInBounds (k * 2) (.int .i64 z0)).setIfInBounds (k * 2 + 1) (.int .i64 z1) := by
          rw [← HZ0.out, ← HZ1.out]
          rw [half_set zs (k * 2) (by omega)]
          rw [half_set zs (k * 2 + 1) (by omega)]
          rw [Nat.succ_mul]
        exact ⟨k + 1, by omega, by go_num, by rw [hset]; exact (Blk.set (Blk.set HQ.out (k * 2) (.int .i64 z0)) (k * 2 + 1) (.int .i64 z1)), by (repeat' (first | (with_reducible exact Below.refl _ _) | (with_reducible assumption) | (with_reducible refine Below.alloc ?_ ?_ _) | (with_reducible refine Below.drew ?_) | (with_reducible refine belowDrewN ?_ _) | (with_reducible refine Below.setCell ?_ ?_ _) | (with_reducible refine Below.via (by with_reducible assumption) ?_ ?_) | (with_reducible refine Below.viaD (by with_reducible assumption) ?_ ?_) | (with_reducible exact Below.size (by with_reducible assumption)) | go_size | (with_reducible refine Nat.le_trans ?_ (Below.size (by with_reducible assumption))) | (with_reducible refine Nat.le_trans ?_ (sizeAlloc _ _)) | (with_reducible refine Nat.le_trans ?_ (sizeSet _ _ _)) | (with_reducible refine Nat.le_trans ?_ (sizeDrew _))))⟩
      case measure => first | (simp [intOf]; done) | (simp [intOf]; omega)
    · obtain rfl : k = n := by omega
      go_wp2
      go_ret
      exact ⟨rfl, by rw [← half_all, HL.out]; exact hblk, by (repeat' (first | (with_reducible exact Below.refl _ _) | (with_reducible assumption) | (with_reducible refine Below.alloc ?_ ?_ _) | (with_reducible refine Below.drew ?_) | (with_reducible refine belowDrewN ?_ _) | (with_reducible refine Below.setCell ?_ ?_ _) | (with_reducible refine Below.via (by with_reducible assumption) ?_ ?_) | (with_reducible refine Below.viaD (by with_reducible assumption) ?_ ?_) | (with_reducible exact Below.size (by with_reducible assumption)) | go_size | (with_reducible refine Nat.le_trans ?_ (Below.size (by with_reducible assumption))) | (with_reducible refine Nat.le_trans ?_ (sizeAlloc _ _)) | (with_reducible refine Nat.le_trans ?_ (sizeSet _ _ _)) | (with_reducible refine Nat.le_trans ?_ (sizeDrew _))))⟩
set_option maxHeartbeats 1000000 in
theorem eqRatedS_any (A A' : Option Addr) (n n' c c' : Nat) (zs zs' : List Int) (w : World) (hs : Sl w w.heap.size 2 A n (zs.map (Value.int .i64))) (hs' : Sl w w.heap.size 2 A' n' (zs'.map (Value.int .i64))) (hn : n ≤ 9223372036854775807) (hn' : n' ≤ 9223372036854775807) :
    Calls Try.prog 11 #[.slice A n c, .slice A' n' c'] w fun e w' => e = .returned (.bool (eqL zs zs')) ∧ Below w.heap.size w w' := by
  have HL : Hid (zs.length = n * 2) := by unfold Hid; have := hs.1; simpa using this
  have HL' : Hid (zs'.length = n' * 2) := by unfold Hid; have := hs'.1; simpa using this
  by_cases he : n = n'
  case neg =>
    have hne : eqL zs zs' = false := by
      rw [eqL, decide_eq_false_iff_not]
      intro e
      have h1 := HL.out
      rw [e, HL'.out] at h1
      omega
    have HN := Lib.hid hne
    clear hne
    go_enter Try.func11, Try.ntmps11
    go_wp2
    go_ret
    exact ⟨by rw [HN.out]; rfl, by (repeat' (first | (with_reducible exact Below.refl _ _) | (with_reducible assumption) | (with_reducible refine Below.alloc ?_ ?_ _) | (with_reducible refine Below.drew ?_) | (with_reducible refine belowDrewN ?_ _) | (with_reducible refine Below.setCell ?_ ?_ _) | (with_reducible refine Below.via (by with_reducible assumption) ?_ ?_) | (with_reducible refine Below.viaD (by with_reducible assumption) ?_ ?_) | (with_reducible exact Below.size (by with_reducible assumption)) | go_size | (with_reducible refine Nat.le_trans ?_ (Below.size (by with_reducible assumption))) | (with_reducible refine Nat.le_trans ?_ (sizeAlloc _ _)) | (with_reducible refine Nat.le_trans ?_ (sizeSet _ _ _)) | (with_reducible refine Nat.le_trans ?_ (sizeDrew _))))⟩
  case pos =>
    subst he
    go_enter Try.func11, Try.ntmps11
    go_wp2
    go_loopw [5] (fun i wr => ∃ k : Nat, k ≤ n ∧ i = .int .i64 k ∧ Hid (∀ j, j < k * 2 → zs.getD j 0 = zs'.getD j 0) ∧ Below w.heap.size w wr) (fun i _ => n - (intOf i).toNat)
    case atStart => exact ⟨0, Nat.zero_le _, rfl, fun j hj => absurd hj (by omega), Below.refl _ _⟩
    case round =>
      obtain ⟨k, hk, rfl, hpre, hbl⟩ := hrel
      by_cases hlt : k < n
      · obtain ⟨b, off, rfl, hb, hl, hc⟩ := (hs.below hbl).cellAt hlt
        obtain ⟨b', off', rfl, hb', hl', hc'⟩ := (hs'.below hbl).cellAt hlt
        obtain ⟨z0, hz0⟩ : ∃ z, zs.getD (k * 2) 0 = z := ⟨_, rfl⟩
        have HZ0 := Lib.hid hz0
        have hcz_0 := hc 0 (by omega)
        rw [Nat.add_zero, hz0] at hcz_0
        obtain ⟨z1, hz1⟩ : ∃ z, zs.getD (k * 2 + 1) 0 = z := ⟨_, rfl⟩
        have HZ1 := Lib.hid hz1
        have hcz_1 := hc 1 (by omega)
        rw [hz1] at hcz_1
        rw [← Nat.add_assoc] at hcz_1
        obtain ⟨y0, hy0⟩ : ∃ z, zs'.getD (k * 2) 0 = z := ⟨_, rfl⟩
        have HY0 := Lib.hid hy0
        have hcy_0 := hc' 0 (by omega)
        rw [Nat.add_zero, hy0] at hcy_0
        obtain ⟨y1, hy1⟩ : ∃ z, zs'.getD (k * 2 + 1) 0 = z := ⟨_, rfl⟩
        have HY1 := Lib.hid hy1
        have hcy_1 := hc' 1 (by omega)
        rw [hy1] at hcy_1
        rw [← Nat.add_assoc] at hcy_1
        clear hc hc' hl hl' hz0 hy0 hz1 hy1
        cases hq : eqL [z0, z1] [y0, y1]
        case false =>
          have hne : eqL zs zs' = false := by
            rw [eqL, decide_eq_false_iff_not]
            intro e
            apply eqL_no hq
            rw [← HZ0.out, ← HY0.out, ← HZ1.out, ← HY1.out, e]
          have HN := Lib.hid hne
          clear hne
          go_wp2_with fail
          go_region_with ((go_at_call 34; refine (eqRated_any _ _ _ _ _).mono ?_; rintro e w1 ⟨rfl, hb1⟩))
          all_goals
            go_wp2_with fail
            go_ret
            exact ⟨by rw [HN.out]; rfl, by (repeat' (first | (with_reducible exact Below.refl _ _) | (with_reducible assumption) | (with_reducible refine Below.alloc ?_ ?_ _) | (with_reducible refine Below.drew ?_) | (with_reducible refine belowDrewN ?_ _) | (with_reducible refine Below.setCell ?_ ?_ _) | (with_reducible refine Below.via (by with_reducible assumption) ?_ ?_) | (with_reducible refine Below.viaD (by with_reducible assumption) ?_ ?_) | (with_reducible exact Below.size (by with_reducible assumption)) | go_size | (with_reducible refine Nat.le_trans ?_ (Below.size (by with_reducible assumption))) | (with_reducible refine Nat.le_trans ?_ (sizeAlloc _ _)) | (with_reducible refine Nat.le_trans ?_ (sizeSet _ _ _)) | (with_reducible refine Nat.le_trans ?_ (sizeDrew _))))⟩
        case true =>
          have HQ := Lib.hid (eqL_of hq)
          go_wp2_with fail
          go_region_with ((go_at_call 34; refine (eqRated_any _ _ _ _ _).mono ?_; rintro e w1 ⟨rfl, hb1⟩))
          all_goals
            go_wp2_with fail
            go_roundw
            case rel =>
              refine ⟨k + 1, by omega, by go_num, fun j hj => ?_, by (repeat' (first | (with_reducible exact Below.refl _ _) | (with_reducible assumption) | (with_reducible refine Below.alloc ?_ ?_ _) | (with_reducible refine Below.drew ?_) | (with_reducible refine belowDrewN ?_ _) | (with_reducible refine Below.setCell ?_ ?_ _) | (with_reducible refine Below.via (by with_reducible assumption) ?_ ?_) | (with_reducible refine Below.viaD (by with_reducible assumption) ?_ ?_) | (with_reducible exact Below.size (by with_reducible assumption)) | go_size | (with_reducible refine Nat.le_trans ?_ (Below.size (by with_reducible assumption))) | (with_reducible refine Nat.le_trans ?_ (sizeAlloc _ _)) | (with_reducible refine Nat.le_trans ?_ (sizeSet _ _ _)) | (with_reducible refine Nat.le_trans ?_ (sizeDrew _))))⟩
              rw [Nat.succ_mul] at hj
              rcases Nat.lt_or_ge j (k * 2) with h | h
              · exact hpre.out j h
              · have hq := HQ.out
                simp only [List.cons.injEq, and_true] at hq
                obtain ⟨i, hi, rfl⟩ : ∃ i, i < 2 ∧ j = k * 2 + i := ⟨j - k * 2, by omega, by omega⟩
                obtain ⟨g0, g1⟩ := hq
                have hi' : i = 0 ∨ i = 1 := by omega
                rcases hi' with rfl | rfl
                · rw [Nat.add_zero, HZ0.out, HY0.out, g0]
                · rw [HZ1.out, HY1.out, g1]
            case measure => first | (simp [intOf]; done) | (simp [intOf]; omega)
      · obtain rfl : k = n := by omega
        have hE : eqL zs zs' = true := by
          rw [eqL, decide_eq_true_eq]
          apply List.ext_getElem (by rw [HL.out, HL'.out])
          intro j h1 h2
          have := hpre.out j (by rw [← HL.out]; exact h1)
          simpa [List.getD_eq_getElem?_getD, h1, h2] using this
        have HE := Lib.hid hE
        clear hE
        go_wp2
        go_ret
        exact ⟨by rw [HE.out]; rfl, by (repeat' (first | (with_reducible exact Below.refl _ _) | (with_reducible assumption) | (with_reducible refine Below.alloc ?_ ?_ _) | (with_reducible refine Below.drew ?_) | (with_reducible refine belowDrewN ?_ _) | (with_reducible refine Below.setCell ?_ ?_ _) | (with_reducible refine Below.via (by with_reducible assumption) ?_ ?_) | (with_reducible refine Below.viaD (by with_reducible assumption) ?_ ?_) | (with_reducible exact Below.size (by with_reducible assumption)) | go_size | (with_reducible refine Nat.le_trans ?_ (Below.size (by with_reducible assumption))) | (with_reducible refine Nat.le_trans ?_ (sizeAlloc _ _)) | (with_reducible refine Nat.le_trans ?_ (sizeSet _ _ _)) | (with_reducible refine Nat.le_trans ?_ (sizeDrew _))))⟩
theorem szRatedS_le (A : Option Addr) (n c : Nat) (left : Int) (w : World) (h1 : (n : Int) ≤ left) (h2 : left ≤ 1048576) : Calls Try.prog 6 #[.slice A n c, .int .i64 left] w fun e w' => e = .returned (.int .i64 (left - n)) ∧ w = w' := by
  go_enter Try.func6, Try.ntmps6
  go_wp2
  go_ret
  exact ⟨rfl, rfl⟩
theorem szRatedS_gt (A : Option Addr) (n c : Nat) (left : Int) (w : World) (h1 : left < (n : Int)) (h2 : 0 ≤ left) (hn : n ≤ 9223372036854775807) : Calls Try.prog 6 #[.slice A n c, .int .i64 left] w fun e w' => e = .returned (.int .i64 (-1)) ∧ w = w' := by
  go_enter Try.func6, Try.ntmps6
  go_wp2
  go_ret
  exact ⟨rfl, rfl⟩
set_option maxHeartbeats 1000000 in
theorem markRatedS_any (A : Option Addr) (n c g : Nat) (zs : List Int) (k0 : Int) (w : World) (ho : Own w g 55 2 A n zs) (hn : n ≤ 1099511627776) (h0 : 0 ≤ k0) (h1 : k0 ≤ 1099511627776) :
    Calls Try.prog 12 #[.slice A n c, .int .i64 k0] w fun e w' => e = .returned (.int .i64 (k0 + (n * 2 : Nat))) ∧ Own w' g 55 2 A n (marks k0 (n * 2)) ∧ w.grownBy w' (some g) := by
  have HL := Lib.hid ho.len
  obtain ⟨rest, hr⟩ := ho.rest
  have HR := Lib.hid hr
  clear hr ho
  go_enter Try.func12, Try.ntmps12
  go_wp2
  go_loopw [1, 5] (fun kk i wr => ∃ k : Nat, k ≤ n ∧ i = .int .i64 k ∧ kk = .int .i64 (k0 + (k * 2 : Nat)) ∧ MarkRel wr g 55 A n zs rest k0 (k * 2) ∧ w.grownBy wr (some g)) (fun _ i _ => n - (intOf i).toNat)
  case atStart => exact ⟨0, Nat.zero_le _, rfl, by simp, fun h => by rw [Nat.zero_mul, markA_zero]; exact HR.out h, World.grownBy.refl _ _⟩
  case round =>
    obtain ⟨k, hk, rfl, rfl, hblk, hgr⟩ := hrel
    by_cases hlt : k < n
    · obtain ⟨rfl, hb⟩ := hblk (by omega)
      have hkl : k * 2 + 2 ≤ zs.length := by rw [HL.out, ← Nat.succ_mul]; exact Nat.mul_le_mul_right _ hlt
      have hkn : k * 2 + 2 ≤ n * 2 := by rw [← Nat.succ_mul]; exact Nat.mul_le_mul_right _ hlt
      have c0 := (hb.cell (k * 2)).trans (markA_get zs rest k0 (k * 2) (k * 2) (by omega) (by omega))
      have f0 := hb.free (k * 2)
      have c1 := (hb.cell (k * 2 + 1)).trans (markA_get zs rest k0 (k * 2) (k * 2 + 1) (by omega) (by omega))
      have f1 := hb.free (k * 2 + 1)
      have HB := Lib.hid hb
      clear hb hblk
      go_wp2
      go_roundw
      case rel =>
        have hset : markA zs rest k0 ((k + 1) * 2) = ((markA zs rest k0 (k * 2)).setIfInBounds (k * 2) (.int .i64 (k0 + (k * 2 : Nat)))).setIfInBounds (k * 2 + 1) (.int .i64 (k0 + (k * 2 + 1 : Nat))) := by
          rw [markA_set zs rest k0 (k * 2) (by omega)]
          rw [markA_set zs rest k0 (k * 2 + 1) (by omega)]
          rw [Nat.succ_mul]
        refine ⟨k + 1, by omega, by go_num, by go_num, ?_, ?_⟩
        · intro _
          refine ⟨rfl, ?_⟩
          rw [hset]
          rw [show (k0 + ((k * 2 + 1 : Nat) : Int)) = k0 + ((k * 2 : Nat) : Int) + 1 from by omega]
          exact (Blk.set (Blk.set HB.out (k * 2) _) (k * 2 + 1) _)
        · exact (only_setCell (p := ⟨g, (k * 2 + 1), none⟩) (only_setCell (p := ⟨g, (k * 2), none⟩) hgr (.inl rfl) _) (.inl rfl) _)
      case measure => first | (simp [intOf]; done) | (simp [intOf]; omega)
    · obtain rfl : k = n := by omega
      go_wp2
      go_ret
      exact ⟨rfl, hblk.own HL.out, hgr⟩
end Go.Proofs.Yteeplmnjipddaaa
