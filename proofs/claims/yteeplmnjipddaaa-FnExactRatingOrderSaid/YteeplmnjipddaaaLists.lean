/- The laws' own copies and comparisons of lists of numbers. Conditions: lengths below 2^40. -/
import Derived.Test.YteeplmnjipddaaaFlat
namespace Go.Proofs.Yteeplmnjipddaaa
set_option linter.unusedSimpArgs false
set_option linter.unusedVariables false
open Go.RowKit

theorem info_int64 : (Try.prog.info? 2).map (fun i => (i.zero, i.size, i.bytes)) = some (some (.int .i64 0), 1, 8) := by kernel_rfl
set_option maxHeartbeats 400000 in
theorem toInt64S_any (A : Option Addr) (n c : Nat) (zs : List Int) (w : World) (hs : Sl w w.heap.size 1 A n (zs.map (Value.int .i64))) (hn : n ≤ 1048576) :
    Calls Try.prog 17 #[.slice A n c] w fun e w' => e = .returned (.slice (some ⟨w.heap.size, 0, none⟩) n n) ∧ w' = w.alloc (.cells (zs.map (Value.int .i64)).toArray 2) := by
  obtain ⟨i0, hi, hz0, hz1, hz2⟩ := info_parts info_int64
  have hl := hs.ints
  have hmk := fun W => run_makeN (P := Try.prog) 24 2 i0 (.int .i64 0) Try.underlying24 hi hz0 .i64 .i64 n n (Nat.le_refl _) (by rw [hz2]; omega) (by omega) W
  rw [hz1] at hmk
  have HL := Lib.hid hl
  clear hl hi hz0 hz1 hz2
  go_enter Try.func17, Try.ntmps17
  go_wp2
  go_loopw [4] (fun i wr => ∃ k : Nat, k ≤ n ∧ i = .int .i64 k ∧ wr = w.alloc (.cells (half zs k) 2)) (fun i _ => n - (intOf i).toNat)
  case atStart => exact ⟨0, Nat.zero_le _, rfl, by rw [← half_zero, HL.out]⟩
  case round =>
    obtain ⟨k, hk, rfl, rfl⟩ := hrel
    by_cases hlt : k < n
    · obtain ⟨b, off, z, rfl, hb, HZ, hc⟩ := hs.int hlt
      have hz := half_get zs k (by rw [HL.out]; exact hlt)
      go_wp2
      go_roundw
      case rel => exact ⟨k + 1, by omega, by go_num, by rw [← half_set zs k (by rw [HL.out]; exact hlt), HZ.out]⟩
      case measure => simp [intOf]; omega
    · obtain rfl : k = n := by omega
      go_wp2
      go_ret
      exact ⟨rfl, by rw [← HL.out, half_all]⟩
set_option maxHeartbeats 400000 in
theorem eqInt64S_any (A A' : Option Addr) (n n' c c' : Nat) (zs zs' : List Int) (w : World) (hs : Sl w w.heap.size 1 A n (zs.map (Value.int .i64))) (hs' : Sl w w.heap.size 1 A' n' (zs'.map (Value.int .i64))) (hn : n ≤ 9223372036854775807) (hn' : n' ≤ 9223372036854775807) :
    Calls Try.prog 10 #[.slice A n c, .slice A' n' c'] w fun e w' => e = .returned (.bool (zs == zs')) ∧ Below w.heap.size w w' := by
  have HL := Lib.hid hs.ints
  have HL' := Lib.hid hs'.ints
  by_cases he : n = n'
  case neg =>
    have hne : (zs == zs') = false := by
      rw [beq_eq_false_iff_ne]
      intro e
      exact he (by rw [← HL.out, ← HL'.out, e])
    have HN := Lib.hid hne
    clear hne
    go_enter Try.func10, Try.ntmps10
    go_wp2
    go_ret
    exact ⟨by rw [HN.out]; rfl, by (repeat' (first | (with_reducible exact Below.refl _ _) | (with_reducible assumption) | (with_reducible refine Below.alloc ?_ ?_ _) | (with_reducible refine Below.drew ?_) | (with_reducible refine belowDrewN ?_ _) | (with_reducible refine Below.setCell ?_ ?_ _) | (with_reducible refine Below.via (by with_reducible assumption) ?_ ?_) | (with_reducible refine Below.viaD (by with_reducible assumption) ?_ ?_) | (with_reducible exact Below.size (by with_reducible assumption)) | go_size | (with_reducible refine Nat.le_trans ?_ (Below.size (by with_reducible assumption))) | (with_reducible refine Nat.le_trans ?_ (sizeAlloc _ _)) | (with_reducible refine Nat.le_trans ?_ (sizeSet _ _ _)) | (with_reducible refine Nat.le_trans ?_ (sizeDrew _))))⟩
  case pos =>
    subst he
    go_enter Try.func10, Try.ntmps10
    go_wp2
    go_loopw [5] (fun i wr => ∃ k : Nat, k ≤ n ∧ i = .int .i64 k ∧ Hid (∀ j, j < k → zs.getD j 0 = zs'.getD j 0) ∧ Below w.heap.size w wr) (fun i _ => n - (intOf i).toNat)
    case atStart => exact ⟨0, Nat.zero_le _, rfl, fun j hj => absurd hj (by omega), Below.refl _ _⟩
    case round =>
      obtain ⟨k, hk, rfl, hpre, hbl⟩ := hrel
      by_cases hlt : k < n
      · obtain ⟨b, off, z, rfl, hb, HZ, hc⟩ := (hs.below hbl).int hlt
        obtain ⟨b', off', z', rfl, hb', HZ', hc'⟩ := (hs'.below hbl).int hlt
        by_cases hq : z = z'
        · subst hq
          go_wp2_with fail
          first | (refine wp_region_quiet_lit (by kernel_rfl) (by kernel_rfl) ?_; refine WQ.of ?_; (repeat (refine WQ.step (fun K hK => ?_); go_simp; first | (refine hK _ ?_; clear hK K) | (apply Exists.intro; refine ⟨fun _ => ?_, hK _ ?_⟩; (fail); clear hK K))); refine WQ.nil ?_; intro _ hw'; obtain ⟨nq, hw''⟩ := hw'; subst hw'') | go_quiet (fail)
          go_wp2_with fail
          go_roundw
          case rel =>
            refine ⟨k + 1, by omega, by go_num, fun j hj => ?_, by (repeat' (first | (with_reducible exact Below.refl _ _) | (with_reducible assumption) | (with_reducible refine Below.alloc ?_ ?_ _) | (with_reducible refine Below.drew ?_) | (with_reducible refine belowDrewN ?_ _) | (with_reducible refine Below.setCell ?_ ?_ _) | (with_reducible refine Below.via (by with_reducible assumption) ?_ ?_) | (with_reducible refine Below.viaD (by with_reducible assumption) ?_ ?_) | (with_reducible exact Below.size (by with_reducible assumption)) | go_size | (with_reducible refine Nat.le_trans ?_ (Below.size (by with_reducible assumption))) | (with_reducible refine Nat.le_trans ?_ (sizeAlloc _ _)) | (with_reducible refine Nat.le_trans ?_ (sizeSet _ _ _)) | (with_reducible refine Nat.le_trans ?_ (sizeDrew _))))⟩
            rcases Nat.lt_or_ge j k with h | h
            · exact hpre.out j h
            · obtain rfl : j = k := by omega
              rw [HZ.out, HZ'.out]
          case measure => simp [intOf]; omega
        · have hq' : (z == z') = false := beq_eq_false_iff_ne.2 hq
          have hE : (zs == zs') = false := by
            rw [beq_eq_false_iff_ne]
            intro e
            exact hq (by rw [← HZ.out, ← HZ'.out, e])
          have HE := Lib.hid hE
          clear hE
          go_wp2_with fail
          first | (refine wp_region_quiet_lit (by kernel_rfl) (by kernel_rfl) ?_; refine WQ.of ?_; (repeat (refine WQ.step (fun K hK => ?_); go_simp; first | (refine hK _ ?_; clear hK K) | (apply Exists.intro; refine ⟨fun _ => ?_, hK _ ?_⟩; (fail); clear hK K))); refine WQ.nil ?_; intro _ hw'; obtain ⟨nq, hw''⟩ := hw'; subst hw'') | go_quiet (fail)
          go_wp2_with fail
          go_ret
          exact ⟨by rw [HE.out]; rfl, by (repeat' (first | (with_reducible exact Below.refl _ _) | (with_reducible assumption) | (with_reducible refine Below.alloc ?_ ?_ _) | (with_reducible refine Below.drew ?_) | (with_reducible refine belowDrewN ?_ _) | (with_reducible refine Below.setCell ?_ ?_ _) | (with_reducible refine Below.via (by with_reducible assumption) ?_ ?_) | (with_reducible refine Below.viaD (by with_reducible assumption) ?_ ?_) | (with_reducible exact Below.size (by with_reducible assumption)) | go_size | (with_reducible refine Nat.le_trans ?_ (Below.size (by with_reducible assumption))) | (with_reducible refine Nat.le_trans ?_ (sizeAlloc _ _)) | (with_reducible refine Nat.le_trans ?_ (sizeSet _ _ _)) | (with_reducible refine Nat.le_trans ?_ (sizeDrew _))))⟩
      · obtain rfl : k = n := by omega
        have hE : (zs == zs') = true := by
          rw [beq_iff_eq]
          apply List.ext_getElem (by rw [HL.out, HL'.out])
          intro j h1 h2
          have := hpre.out j (by rw [← HL.out]; exact h1)
          simpa [List.getD_eq_getElem?_getD, h1, h2] using this
        have HE := Lib.hid hE
        clear hE
        go_wp2
        go_ret
        exact ⟨by rw [HE.out]; rfl, by (repeat' (first | (with_reducible exact Below.refl _ _) | (with_reducible assumption) | (with_reducible refine Below.alloc ?_ ?_ _) | (with_reducible refine Below.drew ?_) | (with_reducible refine belowDrewN ?_ _) | (with_reducible refine Below.setCell ?_ ?_ _) | (with_reducible refine Below.via (by with_reducible assumption) ?_ ?_) | (with_reducible refine Below.viaD (by with_reducible assumption) ?_ ?_) | (with_reducible exact Below.size (by with_reducible assumption)) | go_size | (with_reducible refine Nat.le_trans ?_ (Below.size (by with_reducible assumption))) | (with_reducible refine Nat.le_trans ?_ (sizeAlloc _ _)) | (with_reducible refine Nat.le_trans ?_ (sizeSet _ _ _)) | (with_reducible refine Nat.le_trans ?_ (sizeDrew _))))⟩
end Go.Proofs.Yteeplmnjipddaaa
