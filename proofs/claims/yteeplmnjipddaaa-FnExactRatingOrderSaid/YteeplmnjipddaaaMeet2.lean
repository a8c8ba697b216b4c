/- Valid meetings and firsts: both functions. No conditions beyond lengths. -/
import Derived.Test.YteeplmnjipddaaaMeet1
namespace Go.Proofs.Yteeplmnjipddaaa
set_option linter.unusedSimpArgs false
set_option linter.unusedVariables false
open Go.RowKit

set_option maxHeartbeats 1000000 in
theorem ValidMeetings_any (n : Int) (A : Option Addr) (c cp : Nat) (zs : List Int) (w : World) (hs : Sl w w.heap.size 2 A c (zs.map (Value.int .i64))) (hc : c ≤ 9223372036854775807) :
    Calls Try.prog 40 #[.int .i64 n, .slice A c cp] w fun e w' => e = .returned (.bool (validM n zs)) ∧ Below w.heap.size w w' := by
  have HL : Hid (zs.length = c * 2) := by unfold Hid; have := hs.1; simpa using this
  obtain ⟨m, hm⟩ : ∃ m, wrap64 (n - 1) = m := ⟨_, rfl⟩
  have HM := Lib.hid hm
  cases q0 : inB n 2 12
  case false =>
    have HE := Lib.hid (validM_n (zs := zs) q0)
    go_enter Try.func40, Try.ntmps40
    go_wp2_with (go_at_call 62; refine (isCountR_any _ _).mono ?_; rintro e w_ ⟨rfl, rfl⟩)
    go_ret
    exact ⟨by rw [HE.out]; rfl, by (repeat' (first | (with_reducible exact Below.refl _ _) | (with_reducible assumption) | (with_reducible refine Below.alloc ?_ ?_ _) | (with_reducible refine Below.drew ?_) | (with_reducible refine belowDrewN ?_ _) | (with_reducible refine Below.setCell ?_ ?_ _) | (with_reducible refine Below.via (by with_reducible assumption) ?_ ?_) | (with_reducible refine Below.viaD (by with_reducible assumption) ?_ ?_) | (with_reducible exact Below.size (by with_reducible assumption)) | go_size | (with_reducible refine Nat.le_trans ?_ (Below.size (by with_reducible assumption))) | (with_reducible refine Nat.le_trans ?_ (sizeAlloc _ _)) | (with_reducible refine Nat.le_trans ?_ (sizeSet _ _ _)) | (with_reducible refine Nat.le_trans ?_ (sizeDrew _))))⟩
  case true =>
    have Q0 := Lib.hid q0
    by_cases h150 : 150 < c
    case pos =>
      have HE : Hid (validM n zs = false) := validM_len (by rw [HL.out]; omega)
      go_enter Try.func40, Try.ntmps40
      go_wp2_with (go_at_call 62; refine (isCountR_any _ _).mono ?_; rintro e w_ ⟨rfl, rfl⟩)
      go_ret
      exact ⟨by rw [HE.out]; rfl, by (repeat' (first | (with_reducible exact Below.refl _ _) | (with_reducible assumption) | (with_reducible refine Below.alloc ?_ ?_ _) | (with_reducible refine Below.drew ?_) | (with_reducible refine belowDrewN ?_ _) | (with_reducible refine Below.setCell ?_ ?_ _) | (with_reducible refine Below.via (by with_reducible assumption) ?_ ?_) | (with_reducible refine Below.viaD (by with_reducible assumption) ?_ ?_) | (with_reducible exact Below.size (by with_reducible assumption)) | go_size | (with_reducible refine Nat.le_trans ?_ (Below.size (by with_reducible assumption))) | (with_reducible refine Nat.le_trans ?_ (sizeAlloc _ _)) | (with_reducible refine Nat.le_trans ?_ (sizeSet _ _ _)) | (with_reducible refine Nat.le_trans ?_ (sizeDrew _))))⟩
    case neg =>
      have h150' : c ≤ 150 := by omega
      clear h150
      go_enter Try.func40, Try.ntmps40
      go_wp2_with (go_at_call 62; refine (isCountR_any _ _).mono ?_; rintro e w_ ⟨rfl, rfl⟩)
      go_loopw [17] (fun i wr => ∃ k : Nat, k ≤ c ∧ i = .int .i64 k ∧ Hid (∀ j, j < k → mtOk m zs j = true) ∧ Below w.heap.size w wr) (fun i _ => c - (intOf i).toNat)
      case atStart => exact ⟨0, Nat.zero_le _, rfl, fun j hj => absurd hj (by omega), Below.refl _ _⟩
      case round =>
        obtain ⟨k, hk, rfl, hpre, hbl⟩ := hrel
        by_cases hlt : k < c
        · obtain ⟨b, off, rfl, hb, hl, hcc⟩ := (hs.below hbl).cellAt hlt
          obtain ⟨z0, hz0⟩ : ∃ z, zs.getD (k * 2) 0 = z := ⟨_, rfl⟩
          obtain ⟨z1, hz1⟩ : ∃ z, zs.getD (k * 2 + 1) 0 = z := ⟨_, rfl⟩
          have hc0 := hcc 0 (by omega)
          have hc1 := hcc 1 (by omega)
          rw [Nat.add_zero, hz0] at hc0
          rw [hz1, ← Nat.add_assoc] at hc1
          have hmt : mtOk m zs k = (inB z0 0 m && inB z1 0 m && !(z0 == z1)) := by rw [mtOk, hz0, hz1]
          have HT := Lib.hid hmt
          have hl2 : k < zs.length / 2 := by rw [hl]; omega
          have HL2 := Lib.hid hl2
          clear hcc hl hz0 hz1 hmt hl2
          cases q1 : inB z0 0 m
          case false =>
            have HE : Hid (validM n zs = false) := validM_at HL2.out (by rw [HM.out, HT.out, q1]; rfl)
            go_wp2_with (go_at_call 63; refine (between_any _ _ _ _).mono ?_; rintro e w_ ⟨rfl, rfl⟩)
            go_ret
            exact ⟨by rw [HE.out]; rfl, by (repeat' (first | (with_reducible exact Below.refl _ _) | (with_reducible assumption) | (with_reducible refine Below.alloc ?_ ?_ _) | (with_reducible refine Below.drew ?_) | (with_reducible refine belowDrewN ?_ _) | (with_reducible refine Below.setCell ?_ ?_ _) | (with_reducible refine Below.via (by with_reducible assumption) ?_ ?_) | (with_reducible refine Below.viaD (by with_reducible assumption) ?_ ?_) | (with_reducible exact Below.size (by with_reducible assumption)) | go_size | (with_reducible refine Nat.le_trans ?_ (Below.size (by with_reducible assumption))) | (with_reducible refine Nat.le_trans ?_ (sizeAlloc _ _)) | (with_reducible refine Nat.le_trans ?_ (sizeSet _ _ _)) | (with_reducible refine Nat.le_trans ?_ (sizeDrew _))))⟩
          case true =>
            cases q2 : inB z1 0 m
            case false =>
              have HE : Hid (validM n zs = false) := validM_at HL2.out (by rw [HM.out, HT.out, q1, q2]; rfl)
              go_wp2_with (go_at_call 63; refine (between_any _ _ _ _).mono ?_; rintro e w_ ⟨rfl, rfl⟩)
              go_ret
              exact ⟨by rw [HE.out]; rfl, by (repeat' (first | (with_reducible exact Below.refl _ _) | (with_reducible assumption) | (with_reducible refine Below.alloc ?_ ?_ _) | (with_reducible refine Below.drew ?_) | (with_reducible refine belowDrewN ?_ _) | (with_reducible refine Below.setCell ?_ ?_ _) | (with_reducible refine Below.via (by with_reducible assumption) ?_ ?_) | (with_reducible refine Below.viaD (by with_reducible assumption) ?_ ?_) | (with_reducible exact Below.size (by with_reducible assumption)) | go_size | (with_reducible refine Nat.le_trans ?_ (Below.size (by with_reducible assumption))) | (with_reducible refine Nat.le_trans ?_ (sizeAlloc _ _)) | (with_reducible refine Nat.le_trans ?_ (sizeSet _ _ _)) | (with_reducible refine Nat.le_trans ?_ (sizeDrew _))))⟩
            case true =>
              cases q3 : (z0 == z1)
              case true =>
                have HE : Hid (validM n zs = false) := validM_at HL2.out (by rw [HM.out, HT.out, q1, q2, q3]; rfl)
                go_wp2_with (go_at_call 63; refine (between_any _ _ _ _).mono ?_; rintro e w_ ⟨rfl, rfl⟩)
                go_ret
                exact ⟨by rw [HE.out]; rfl, by (repeat' (first | (with_reducible exact Below.refl _ _) | (with_reducible assumption) | (with_reducible refine Below.alloc ?_ ?_ _) | (with_reducible refine Below.drew ?_) | (with_reducible refine belowDrewN ?_ _) | (with_reducible refine Below.setCell ?_ ?_ _) | (with_reducible refine Below.via (by with_reducible assumption) ?_ ?_) | (with_reducible refine Below.viaD (by with_reducible assumption) ?_ ?_) | (with_reducible exact Below.size (by with_reducible assumption)) | go_size | (with_reducible refine Nat.le_trans ?_ (Below.size (by with_reducible assumption))) | (with_reducible refine Nat.le_trans ?_ (sizeAlloc _ _)) | (with_reducible refine Nat.le_trans ?_ (sizeSet _ _ _)) | (with_reducible refine Nat.le_trans ?_ (sizeDrew _))))⟩
              case false =>
                have HX : Hid (mtOk m zs k = true) := by unfold Hid; rw [HT.out, q1, q2, q3]; rfl
                go_wp2_with (go_at_call 63; refine (between_any _ _ _ _).mono ?_; rintro e w_ ⟨rfl, rfl⟩)
                go_roundw
                case rel =>
                  refine ⟨k + 1, by omega, by go_num, fun j hj => ?_, by (repeat' (first | (with_reducible exact Below.refl _ _) | (with_reducible assumption) | (with_reducible refine Below.alloc ?_ ?_ _) | (with_reducible refine Below.drew ?_) | (with_reducible refine belowDrewN ?_ _) | (with_reducible refine Below.setCell ?_ ?_ _) | (with_reducible refine Below.via (by with_reducible assumption) ?_ ?_) | (with_reducible refine Below.viaD (by with_reducible assumption) ?_ ?_) | (with_reducible exact Below.size (by with_reducible assumption)) | go_size | (with_reducible refine Nat.le_trans ?_ (Below.size (by with_reducible assumption))) | (with_reducible refine Nat.le_trans ?_ (sizeAlloc _ _)) | (with_reducible refine Nat.le_trans ?_ (sizeSet _ _ _)) | (with_reducible refine Nat.le_trans ?_ (sizeDrew _))))⟩
                  rcases Nat.lt_or_ge j k with h | h
                  · exact hpre.out j h
                  · obtain rfl : j = k := by omega
                    exact HX.out
                case measure => first | (simp [intOf]; done) | (simp [intOf]; omega)
        · obtain rfl : k = c := by omega
          have HE : Hid (validM n zs = (inB n 2 12 && decide ((k : Int) ≤ 150))) := validM_t HL.out (by rw [HM.out]; exact hpre.out)
          have HF : Hid (validM n zs = true) := by unfold Hid; rw [HE.out, Q0.out, decide_eq_true (by omega)]; rfl
          go_wp2_with fail
          go_ret
          exact ⟨by rw [HF.out]; rfl, by (repeat' (first | (with_reducible exact Below.refl _ _) | (with_reducible assumption) | (with_reducible refine Below.alloc ?_ ?_ _) | (with_reducible refine Below.drew ?_) | (with_reducible refine belowDrewN ?_ _) | (with_reducible refine Below.setCell ?_ ?_ _) | (with_reducible refine Below.via (by with_reducible assumption) ?_ ?_) | (with_reducible refine Below.viaD (by with_reducible assumption) ?_ ?_) | (with_reducible exact Below.size (by with_reducible assumption)) | go_size | (with_reducible refine Nat.le_trans ?_ (Below.size (by with_reducible assumption))) | (with_reducible refine Nat.le_trans ?_ (sizeAlloc _ _)) | (with_reducible refine Nat.le_trans ?_ (sizeSet _ _ _)) | (with_reducible refine Nat.le_trans ?_ (sizeDrew _))))⟩
end Go.Proofs.Yteeplmnjipddaaa
