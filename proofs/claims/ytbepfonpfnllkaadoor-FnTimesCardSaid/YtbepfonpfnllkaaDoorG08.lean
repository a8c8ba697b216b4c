/- Validity of clocks: both functions. No conditions beyond lengths. -/
import Derived.Test.YtbepfonpfnllkaaDoorG04
namespace Go.Proofs.YtbepfonpfnllkaaDoor
set_option linter.unusedSimpArgs false
set_option linter.unusedVariables false
open Go.RowKit

theorem quiet_left {P : Program} {f : FuncId} {args : Array Value} {w : World} {n : Nat} {v : Value}
    (h : Calls P f args (w.drewN n) fun e w' => e = .returned v ∧ w.drewN n = w') : Calls P f args (w.drewN n) fun e w'' => e = .returned v ∧ ∃ m, w'' = w.drewN m :=
  h.mono fun _ _ ⟨he, hm⟩ => ⟨he, n, hm.symm⟩
def tB (n : Int) : Bool := inB n 0 36000000
theorem l23Time_any (n : Int) (w : World) : Calls Tryd.prog 30 #[.int .i64 n] w fun e w' => e = .returned (.bool (tB n)) ∧ w = w' := by
  go_enter Tryd.func30, Tryd.ntmps30
  go_wp2_with (go_at_call 32; refine (l00In_any _ _ _ _).mono ?_; rintro e w_ ⟨rfl, rfl⟩)
  go_ret
  exact ⟨rfl, rfl⟩
theorem isTime_any (n : Int) (w : World) : Calls Tryd.prog 22 #[.int .i64 n] w fun e w' => e = .returned (.bool (tB n)) ∧ w = w' := by
  go_enter Tryd.func22, Tryd.ntmps22
  go_wp2_with (go_at_call 31; refine (between_any _ _ _ _).mono ?_; rintro e w_ ⟨rfl, rfl⟩)
  go_ret
  exact ⟨rfl, rfl⟩
theorem isPlayer_any (n : Int) (w : World) : Calls Tryd.prog 37 #[.int .i64 n] w fun e w' => e = .returned (.bool (inB n 0 1)) ∧ w = w' := by
  by_cases h0 : n = 0
  · subst h0
    go_enter Tryd.func37, Tryd.ntmps37
    go_wp2
    go_ret
    exact ⟨by rw [inB_t (by omega) (by omega)]; rfl, rfl⟩
  · have q0 : (n == 0) = false := beq_eq_false_iff_ne.2 h0
    by_cases h1 : n = 1
    · subst h1
      go_enter Tryd.func37, Tryd.ntmps37
      go_wp2
      go_ret
      exact ⟨by rw [inB_t (by omega) (by omega)]; rfl, rfl⟩
    · have q1 : (n == 1) = false := beq_eq_false_iff_ne.2 h1
      have HE : Hid (inB n 0 1 = false) := by
        rcases Int.lt_or_le n 0 with h | h
        · exact inB_f1 h
        · exact inB_f2 (by omega)
      clear h0 h1
      go_enter Tryd.func37, Tryd.ntmps37
      go_wp2
      go_ret
      exact ⟨by rw [HE.out]; rfl, rfl⟩
/-- Is a clock valid whose list of times is zs? -/
def vC (zs : List Int) (inc del pl si : Int) (ru fa : Bool) : Bool :=
  match zs with
  | [z0, z1] => tB z0 && tB z1 && tB inc && tB del && tB si && inB pl 0 1 && (if fa then (if pl = 0 then z0 == 0 else z1 == 0) && !ru && si == 0 else decide (0 < z0) && decide (0 < z1) && (ru || si == 0))
  | _ => false
theorem vC_len {zs : List Int} {inc del pl si : Int} {ru fa : Bool} (h : zs.length ≠ 2) : vC zs inc del pl si ru fa = false := by
  match zs, h with
  | [], _ => rfl
  | [_], _ => rfl
  | [_, _], h => exact absurd rfl h
  | _ :: _ :: _ :: _, _ => rfl
theorem vC_two (z0 z1 inc del pl si : Int) (ru fa : Bool) : vC [z0, z1] inc del pl si ru fa = (tB z0 && tB z1 && tB inc && tB del && tB si && inB pl 0 1 && (if fa then (if pl = 0 then z0 == 0 else z1 == 0) && !ru && si == 0 else decide (0 < z0) && decide (0 < z1) && (ru || si == 0))) := rfl

set_option maxRecDepth 100000 in
set_option maxHeartbeats 4000000 in
theorem ValidClock_any (A : Option Addr) (n c : Nat) (zs : List Int) (inc del pl si : Int) (ru fa : Bool) (w : World) (hs : Sl w w.heap.size 1 A n (zs.map (Value.int .i64))) (hn : n ≤ 9223372036854775807) :
    Calls Tryd.prog 17 #[.agg #[.slice A n c, .int .i64 inc, .int .i64 del, .int .i64 pl, .int .i64 si, .bool ru, .bool fa]] w fun e w' => e = .returned (.bool (vC zs inc del pl si ru fa)) ∧ Below w.heap.size w w' := by
  have hl := hs.ints
  by_cases h2 : n = 2
  case neg =>
    have HE : Hid (vC zs inc del pl si ru fa = false) := vC_len (by omega)
    have hq : ((n : Int) == 2) = false := by rw [beq_eq_false_iff_ne]; omega
    have hq2 : ((n : Int) != 2) = true := by rw [bne, hq]; rfl
    clear hl h2
    go_enter Tryd.func17, Tryd.ntmps17
    go_wp2_with (first | (go_at_call 22; refine (isTime_any _ _).mono ?_; rintro e w_ ⟨rfl, rfl⟩) | (go_at_call 37; refine (isPlayer_any _ _).mono ?_; rintro e w_ ⟨rfl, rfl⟩))
    all_goals (try (go_quiet (fail); go_wp2_with (first | (go_at_call 22; refine (isTime_any _ _).mono ?_; rintro e w_ ⟨rfl, rfl⟩) | (go_at_call 37; refine (isPlayer_any _ _).mono ?_; rintro e w_ ⟨rfl, rfl⟩))))
    all_goals
      go_ret
      exact ⟨by rw [HE.out]; rfl, by (repeat' (first | (with_reducible exact Below.refl _ _) | (with_reducible assumption) | (with_reducible refine Below.alloc ?_ ?_ _) | (with_reducible refine Below.drew ?_) | (with_reducible refine belowDrewN ?_ _) | (with_reducible refine Below.setCell ?_ ?_ _) | (with_reducible refine Below.via (by with_reducible assumption) ?_ ?_) | (with_reducible refine Below.viaD (by with_reducible assumption) ?_ ?_) | (with_reducible exact Below.size (by with_reducible assumption)) | go_size | (with_reducible refine Nat.le_trans ?_ (Below.size (by with_reducible assumption))) | (with_reducible refine Nat.le_trans ?_ (sizeAlloc _ _)) | (with_reducible refine Nat.le_trans ?_ (sizeSet _ _ _)) | (with_reducible refine Nat.le_trans ?_ (sizeDrew _))))⟩
  case pos =>
    subst h2
    obtain ⟨z0, z1, rfl⟩ := list2 hl
    obtain ⟨b, off, rfl, hb, hc⟩ := hs.2 (by omega)
    have hc0 := hc 0 _ rfl
    have hc1 := hc 1 _ rfl
    rw [Nat.add_zero] at hc0
    have HS := Lib.hid (vC_two z0 z1 inc del pl si ru fa)
    clear hc hl hs
    cases q0 : tB z0
    case false =>
      have HE : Hid (vC [z0, z1] inc del pl si ru fa = false) := by unfold Hid; rw [HS.out, q0]; simp
      go_enter Tryd.func17, Tryd.ntmps17
      go_wp2_with (first | (go_at_call 22; refine (isTime_any _ _).mono ?_; rintro e w_ ⟨rfl, rfl⟩) | (go_at_call 37; refine (isPlayer_any _ _).mono ?_; rintro e w_ ⟨rfl, rfl⟩))
      all_goals (try (go_quiet (fail); go_wp2_with (first | (go_at_call 22; refine (isTime_any _ _).mono ?_; rintro e w_ ⟨rfl, rfl⟩) | (go_at_call 37; refine (isPlayer_any _ _).mono ?_; rintro e w_ ⟨rfl, rfl⟩))))
      all_goals
        go_ret
        exact ⟨by rw [HE.out]; rfl, by (repeat' (first | (with_reducible exact Below.refl _ _) | (with_reducible assumption) | (with_reducible refine Below.alloc ?_ ?_ _) | (with_reducible refine Below.drew ?_) | (with_reducible refine belowDrewN ?_ _) | (with_reducible refine Below.setCell ?_ ?_ _) | (with_reducible refine Below.via (by with_reducible assumption) ?_ ?_) | (with_reducible refine Below.viaD (by with_reducible assumption) ?_ ?_) | (with_reducible exact Below.size (by with_reducible assumption)) | go_size | (with_reducible refine Nat.le_trans ?_ (Below.size (by with_reducible assumption))) | (with_reducible refine Nat.le_trans ?_ (sizeAlloc _ _)) | (with_reducible refine Nat.le_trans ?_ (sizeSet _ _ _)) | (with_reducible refine Nat.le_trans ?_ (sizeDrew _))))⟩
    case true =>
      cases q1 : tB z1
      case false =>
        have HE : Hid (vC [z0, z1] inc del pl si ru fa = false) := by unfold Hid; rw [HS.out, q1]; simp
        go_enter Tryd.func17, Tryd.ntmps17
        go_wp2_with (first | (go_at_call 22; refine (isTime_any _ _).mono ?_; rintro e w_ ⟨rfl, rfl⟩) | (go_at_call 37; refine (isPlayer_any _ _).mono ?_; rintro e w_ ⟨rfl, rfl⟩))
        all_goals (try (go_quiet (fail); go_wp2_with (first | (go_at_call 22; refine (isTime_any _ _).mono ?_; rintro e w_ ⟨rfl, rfl⟩) | (go_at_call 37; refine (isPlayer_any _ _).mono ?_; rintro e w_ ⟨rfl, rfl⟩))))
        all_goals
          go_ret
          exact ⟨by rw [HE.out]; rfl, by (repeat' (first | (with_reducible exact Below.refl _ _) | (with_reducible assumption) | (with_reducible refine Below.alloc ?_ ?_ _) | (with_reducible refine Below.drew ?_) | (with_reducible refine belowDrewN ?_ _) | (with_reducible refine Below.setCell ?_ ?_ _) | (with_reducible refine Below.via (by with_reducible assumption) ?_ ?_) | (with_reducible refine Below.viaD (by with_reducible assumption) ?_ ?_) | (with_reducible exact Below.size (by with_reducible assumption)) | go_size | (with_reducible refine Nat.le_trans ?_ (Below.size (by with_reducible assumption))) | (with_reducible refine Nat.le_trans ?_ (sizeAlloc _ _)) | (with_reducible refine Nat.le_trans ?_ (sizeSet _ _ _)) | (with_reducible refine Nat.le_trans ?_ (sizeDrew _))))⟩
      case true =>
        cases q2 : tB inc
        case false =>
          have HE : Hid (vC [z0, z1] inc del pl si ru fa = false) := by unfold Hid; rw [HS.out, q2]; simp
          go_enter Tryd.func17, Tryd.ntmps17
          go_wp2_with (first | (go_at_call 22; refine (isTime_any _ _).mono ?_; rintro e w_ ⟨rfl, rfl⟩) | (go_at_call 37; refine (isPlayer_any _ _).mono ?_; rintro e w_ ⟨rfl, rfl⟩))
          all_goals (try (go_quiet (fail); go_wp2_with (first | (go_at_call 22; refine (isTime_any _ _).mono ?_; rintro e w_ ⟨rfl, rfl⟩) | (go_at_call 37; refine (isPlayer_any _ _).mono ?_; rintro e w_ ⟨rfl, rfl⟩))))
          all_goals
            go_ret
            exact ⟨by rw [HE.out]; rfl, by (repeat' (first | (with_reducible exact Below.refl _ _) | (with_reducible assumption) | (with_reducible refine Below.alloc ?_ ?_ _) | (with_reducible refine Below.drew ?_) | (with_reducible refine belowDrewN ?_ _) | (with_reducible refine Below.setCell ?_ ?_ _) | (with_reducible refine Below.via (by with_reducible assumption) ?_ ?_) | (with_reducible refine Below.viaD (by with_reducible assumption) ?_ ?_) | (with_reducible exact Below.size (by with_reducible assumption)) | go_size | (with_reducible refine Nat.le_trans ?_ (Below.size (by with_reducible assumption))) | (with_reducible refine Nat.le_trans ?_ (sizeAlloc _ _)) | (with_reducible refine Nat.le_trans ?_ (sizeSet _ _ _)) | (with_reducible refine Nat.le_trans ?_ (sizeDrew _))))⟩
        case true =>
          cases q3 : tB del
          case false =>
            have HE : Hid (vC [z0, z1] inc del pl si ru fa = false) := by unfold Hid; rw [HS.out, q3]; simp
            go_enter Tryd.func17, Tryd.ntmps17
            go_wp2_with (first | (go_at_call 22; refine (isTime_any _ _).mono ?_; rintro e w_ ⟨rfl, rfl⟩) | (go_at_call 37; refine (isPlayer_any _ _).mono ?_; rintro e w_ ⟨rfl, rfl⟩))
            all_goals (try (go_quiet (fail); go_wp2_with (first | (go_at_call 22; refine (isTime_any _ _).mono ?_; rintro e w_ ⟨rfl, rfl⟩) | (go_at_call 37; refine (isPlayer_any _ _).mono ?_; rintro e w_ ⟨rfl, rfl⟩))))
            all_goals
              go_ret
              exact ⟨by rw [HE.out]; rfl, by (repeat' (first | (with_reducible exact Below.refl _ _) | (with_reducible assumption) | (with_reducible refine Below.alloc ?_ ?_ _) | (with_reducible refine Below.drew ?_) | (with_reducible refine belowDrewN ?_ _) | (with_reducible refine Below.setCell ?_ ?_ _) | (with_reducible refine Below.via (by with_reducible assumption) ?_ ?_) | (with_reducible refine Below.viaD (by with_reducible assumption) ?_ ?_) | (with_reducible exact Below.size (by with_reducible assumption)) | go_size | (with_reducible refine Nat.le_trans ?_ (Below.size (by with_reducible assumption))) | (with_reducible refine Nat.le_trans ?_ (sizeAlloc _ _)) | (with_reducible refine Nat.le_trans ?_ (sizeSet _ _ _)) | (with_reducible refine Nat.le_trans ?_ (sizeDrew _))))⟩
          case true =>
            cases q4 : tB si
            case false =>
              have HE : Hid (vC [z0, z1] inc del pl si ru fa = false) := by unfold Hid; rw [HS.out, q4]; simp
              go_enter Tryd.func17, Tryd.ntmps17
              go_wp2_with (first | (go_at_call 22; refine (isTime_any _ _).mono ?_; rintro e w_ ⟨rfl, rfl⟩) | (go_at_call 37; refine (isPlayer_any _ _).mono ?_; rintro e w_ ⟨rfl, rfl⟩))
              all_goals (try (go_quiet (fail); go_wp2_with (first | (go_at_call 22; refine (isTime_any _ _).mono ?_; rintro e w_ ⟨rfl, rfl⟩) | (go_at_call 37; refine (isPlayer_any _ _).mono ?_; rintro e w_ ⟨rfl, rfl⟩))))
              all_goals
                go_ret
                exact ⟨by rw [HE.out]; rfl, by (repeat' (first | (with_reducible exact Below.refl _ _) | (with_reducible assumption) | (with_reducible refine Below.alloc ?_ ?_ _) | (with_reducible refine Below.drew ?_) | (with_reducible refine belowDrewN ?_ _) | (with_reducible refine Below.setCell ?_ ?_ _) | (with_reducible refine Below.via (by with_reducible assumption) ?_ ?_) | (with_reducible refine Below.viaD (by with_reducible assumption) ?_ ?_) | (with_reducible exact Below.size (by with_reducible assumption)) | go_size | (with_reducible refine Nat.le_trans ?_ (Below.size (by with_reducible assumption))) | (with_reducible refine Nat.le_trans ?_ (sizeAlloc _ _)) | (with_reducible refine Nat.le_trans ?_ (sizeSet _ _ _)) | (with_reducible refine Nat.le_trans ?_ (sizeDrew _))))⟩
            case true =>
              cases q5 : inB pl 0 1
              case false =>
                have HE : Hid (vC [z0, z1] inc del pl si ru fa = false) := by unfold Hid; rw [HS.out, q5]; simp
                go_enter Tryd.func17, Tryd.ntmps17
                go_wp2_with (first | (go_at_call 22; refine (isTime_any _ _).mono ?_; rintro e w_ ⟨rfl, rfl⟩) | (go_at_call 37; refine (isPlayer_any _ _).mono ?_; rintro e w_ ⟨rfl, rfl⟩))
                all_goals (try (go_quiet (fail); go_wp2_with (first | (go_at_call 22; refine (isTime_any _ _).mono ?_; rintro e w_ ⟨rfl, rfl⟩) | (go_at_call 37; refine (isPlayer_any _ _).mono ?_; rintro e w_ ⟨rfl, rfl⟩))))
                all_goals
                  go_ret
                  exact ⟨by rw [HE.out]; rfl, by (repeat' (first | (with_reducible exact Below.refl _ _) | (with_reducible assumption) | (with_reducible refine Below.alloc ?_ ?_ _) | (with_reducible refine Below.drew ?_) | (with_reducible refine belowDrewN ?_ _) | (with_reducible refine Below.setCell ?_ ?_ _) | (with_reducible refine Below.via (by with_reducible assumption) ?_ ?_) | (with_reducible refine Below.viaD (by with_reducible assumption) ?_ ?_) | (with_reducible exact Below.size (by with_reducible assumption)) | go_size | (with_reducible refine Nat.le_trans ?_ (Below.size (by with_reducible assumption))) | (with_reducible refine Nat.le_trans ?_ (sizeAlloc _ _)) | (with_reducible refine Nat.le_trans ?_ (sizeSet _ _ _)) | (with_reducible refine Nat.le_trans ?_ (sizeDrew _))))⟩
              case true =>
                cases fa
                case false =>
                  by_cases r0 : 0 < z0
                  case neg =>
                    have HE : Hid (vC [z0, z1] inc del pl si ru false = false) := by unfold Hid; rw [HS.out, decide_eq_false r0]; simp
                    have r0' : z0 ≤ 0 := by omega
                    clear r0
                    go_enter Tryd.func17, Tryd.ntmps17
                    go_wp2_with (first | (go_at_call 22; refine (isTime_any _ _).mono ?_; rintro e w_ ⟨rfl, rfl⟩) | (go_at_call 37; refine (isPlayer_any _ _).mono ?_; rintro e w_ ⟨rfl, rfl⟩))
                    all_goals (try (go_quiet (fail); go_wp2_with (first | (go_at_call 22; refine (isTime_any _ _).mono ?_; rintro e w_ ⟨rfl, rfl⟩) | (go_at_call 37; refine (isPlayer_any _ _).mono ?_; rintro e w_ ⟨rfl, rfl⟩))))
                    all_goals
                      go_ret
                      exact ⟨by rw [HE.out]; rfl, by (repeat' (first | (with_reducible exact Below.refl _ _) | (with_reducible assumption) | (with_reducible refine Below.alloc ?_ ?_ _) | (with_reducible refine Below.drew ?_) | (with_reducible refine belowDrewN ?_ _) | (with_reducible refine Below.setCell ?_ ?_ _) | (with_reducible refine Below.via (by with_reducible assumption) ?_ ?_) | (with_reducible refine Below.viaD (by with_reducible assumption) ?_ ?_) | (with_reducible exact Below.size (by with_reducible assumption)) | go_size | (with_reducible refine Nat.le_trans ?_ (Below.size (by with_reducible assumption))) | (with_reducible refine Nat.le_trans ?_ (sizeAlloc _ _)) | (with_reducible refine Nat.le_trans ?_ (sizeSet _ _ _)) | (with_reducible refine Nat.le_trans ?_ (sizeDrew _))))⟩
                  case pos =>
                    by_cases r1 : 0 < z1
                    case neg =>
                      have HE : Hid (vC [z0, z1] inc del pl si ru false = false) := by unfold Hid; rw [HS.out, decide_eq_false r1]; simp
                      have r1' : z1 ≤ 0 := by omega
                      clear r1
                      go_enter Tryd.func17, Tryd.ntmps17
                      go_wp2_with (first | (go_at_call 22; refine (isTime_any _ _).mono ?_; rintro e w_ ⟨rfl, rfl⟩) | (go_at_call 37; refine (isPlayer_any _ _).mono ?_; rintro e w_ ⟨rfl, rfl⟩))
                      all_goals (try (go_quiet (fail); go_wp2_with (first | (go_at_call 22; refine (isTime_any _ _).mono ?_; rintro e w_ ⟨rfl, rfl⟩) | (go_at_call 37; refine (isPlayer_any _ _).mono ?_; rintro e w_ ⟨rfl, rfl⟩))))
                      all_goals
                        go_ret
                        exact ⟨by rw [HE.out]; rfl, by (repeat' (first | (with_reducible exact Below.refl _ _) | (with_reducible assumption) | (with_reducible refine Below.alloc ?_ ?_ _) | (with_reducible refine Below.drew ?_) | (with_reducible refine belowDrewN ?_ _) | (with_reducible refine Below.setCell ?_ ?_ _) | (with_reducible refine Below.via (by with_reducible assumption) ?_ ?_) | (with_reducible refine Below.viaD (by with_reducible assumption) ?_ ?_) | (with_reducible exact Below.size (by with_reducible assumption)) | go_size | (with_reducible refine Nat.le_trans ?_ (Below.size (by with_reducible assumption))) | (with_reducible refine Nat.le_trans ?_ (sizeAlloc _ _)) | (with_reducible refine Nat.le_trans ?_ (sizeSet _ _ _)) | (with_reducible refine Nat.le_trans ?_ (sizeDrew _))))⟩
                    case pos =>
                      cases ru
                      case false =>
                        have HE : Hid (vC [z0, z1] inc del pl si false false = (si == 0)) := by unfold Hid; rw [HS.out, q0, q1, q2, q3, q4, q5, decide_eq_true r0, decide_eq_true r1]; simp
                        go_enter Tryd.func17, Tryd.ntmps17
                        go_wp2_with (first | (go_at_call 22; refine (isTime_any _ _).mono ?_; rintro e w_ ⟨rfl, rfl⟩) | (go_at_call 37; refine (isPlayer_any _ _).mono ?_; rintro e w_ ⟨rfl, rfl⟩))
                        all_goals (try (go_quiet (fail); go_wp2_with (first | (go_at_call 22; refine (isTime_any _ _).mono ?_; rintro e w_ ⟨rfl, rfl⟩) | (go_at_call 37; refine (isPlayer_any _ _).mono ?_; rintro e w_ ⟨rfl, rfl⟩))))
                        all_goals
                          go_ret
                          exact ⟨by rw [HE.out]; rfl, by (repeat' (first | (with_reducible exact Below.refl _ _) | (with_reducible assumption) | (with_reducible refine Below.alloc ?_ ?_ _) | (with_reducible refine Below.drew ?_) | (with_reducible refine belowDrewN ?_ _) | (with_reducible refine Below.setCell ?_ ?_ _) | (with_reducible refine Below.via (by with_reducible assumption) ?_ ?_) | (with_reducible refine Below.viaD (by with_reducible assumption) ?_ ?_) | (with_reducible exact Below.size (by with_reducible assumption)) | go_size | (with_reducible refine Nat.le_trans ?_ (Below.size (by with_reducible assumption))) | (with_reducible refine Nat.le_trans ?_ (sizeAlloc _ _)) | (with_reducible refine Nat.le_trans ?_ (sizeSet _ _ _)) | (with_reducible refine Nat.le_trans ?_ (sizeDrew _))))⟩
                      case true =>
                        have HE : Hid (vC [z0, z1] inc del pl si true false = true) := by unfold Hid; rw [HS.out, q0, q1, q2, q3, q4, q5, decide_eq_true r0, decide_eq_true r1]; simp
                        go_enter Tryd.func17, Tryd.ntmps17
                        go_wp2_with (first | (go_at_call 22; refine (isTime_any _ _).mono ?_; rintro e w_ ⟨rfl, rfl⟩) | (go_at_call 37; refine (isPlayer_any _ _).mono ?_; rintro e w_ ⟨rfl, rfl⟩))
                        all_goals (try (go_quiet (fail); go_wp2_with (first | (go_at_call 22; refine (isTime_any _ _).mono ?_; rintro e w_ ⟨rfl, rfl⟩) | (go_at_call 37; refine (isPlayer_any _ _).mono ?_; rintro e w_ ⟨rfl, rfl⟩))))
                        all_goals
                          go_ret
                          exact ⟨by rw [HE.out]; rfl, by (repeat' (first | (with_reducible exact Below.refl _ _) | (with_reducible assumption) | (with_reducible refine Below.alloc ?_ ?_ _) | (with_reducible refine Below.drew ?_) | (with_reducible refine belowDrewN ?_ _) | (with_reducible refine Below.setCell ?_ ?_ _) | (with_reducible refine Below.via (by with_reducible assumption) ?_ ?_) | (with_reducible refine Below.viaD (by with_reducible assumption) ?_ ?_) | (with_reducible exact Below.size (by with_reducible assumption)) | go_size | (with_reducible refine Nat.le_trans ?_ (Below.size (by with_reducible assumption))) | (with_reducible refine Nat.le_trans ?_ (sizeAlloc _ _)) | (with_reducible refine Nat.le_trans ?_ (sizeSet _ _ _)) | (with_reducible refine Nat.le_trans ?_ (sizeDrew _))))⟩
                case true =>
                  have hpl := inB_of q5
                  have hpl' : pl = 0 ∨ pl = 1 := by omega
                  rcases hpl' with rfl | rfl
                  ·
                    cases r0 : (z0 == 0)
                    case false =>
                      have HE : Hid (vC [z0, z1] inc del 0 si ru true = false) := by unfold Hid; rw [HS.out]; simp [r0]
                      go_enter Tryd.func17, Tryd.ntmps17
                      go_wp2_with (first | (go_at_call 22; refine (isTime_any _ _).mono ?_; rintro e w_ ⟨rfl, rfl⟩) | (go_at_call 37; refine (isPlayer_any _ _).mono ?_; rintro e w_ ⟨rfl, rfl⟩))
                      all_goals (try (go_quiet (fail); go_wp2_with (first | (go_at_call 22; refine (isTime_any _ _).mono ?_; rintro e w_ ⟨rfl, rfl⟩) | (go_at_call 37; refine (isPlayer_any _ _).mono ?_; rintro e w_ ⟨rfl, rfl⟩))))
                      all_goals
                        go_ret
                        exact ⟨by rw [HE.out]; rfl, by (repeat' (first | (with_reducible exact Below.refl _ _) | (with_reducible assumption) | (with_reducible refine Below.alloc ?_ ?_ _) | (with_reducible refine Below.drew ?_) | (with_reducible refine belowDrewN ?_ _) | (with_reducible refine Below.setCell ?_ ?_ _) | (with_reducible refine Below.via (by with_reducible assumption) ?_ ?_) | (with_reducible refine Below.viaD (by with_reducible assumption) ?_ ?_) | (with_reducible exact Below.size (by with_reducible assumption)) | go_size | (with_reducible refine Nat.le_trans ?_ (Below.size (by with_reducible assumption))) | (with_reducible refine Nat.le_trans ?_ (sizeAlloc _ _)) | (with_reducible refine Nat.le_trans ?_ (sizeSet _ _ _)) | (with_reducible refine Nat.le_trans ?_ (sizeDrew _))))⟩
                    case true =>
                      cases ru
                      case false =>
                        have HE : Hid (vC [z0, z1] inc del 0 si false true = (si == 0)) := by unfold Hid; rw [HS.out, q0, q1, q2, q3, q4, q5]; simp [r0]
                        go_enter Tryd.func17, Tryd.ntmps17
                        go_wp2_with (first | (go_at_call 22; refine (isTime_any _ _).mono ?_; rintro e w_ ⟨rfl, rfl⟩) | (go_at_call 37; refine (isPlayer_any _ _).mono ?_; rintro e w_ ⟨rfl, rfl⟩))
                        all_goals (try (go_quiet (fail); go_wp2_with (first | (go_at_call 22; refine (isTime_any _ _).mono ?_; rintro e w_ ⟨rfl, rfl⟩) | (go_at_call 37; refine (isPlayer_any _ _).mono ?_; rintro e w_ ⟨rfl, rfl⟩))))
                        all_goals
                          go_ret
                          exact ⟨by rw [HE.out]; rfl, by (repeat' (first | (with_reducible exact Below.refl _ _) | (with_reducible assumption) | (with_reducible refine Below.alloc ?_ ?_ _) | (with_reducible refine Below.drew ?_) | (with_reducible refine belowDrewN ?_ _) | (with_reducible refine Below.setCell ?_ ?_ _) | (with_reducible refine Below.via (by with_reducible assumption) ?_ ?_) | (with_reducible refine Below.viaD (by with_reducible assumption) ?_ ?_) | (with_reducible exact Below.size (by with_reducible assumption)) | go_size | (with_reducible refine Nat.le_trans ?_ (Below.size (by with_reducible assumption))) | (with_reducible refine Nat.le_trans ?_ (sizeAlloc _ _)) | (with_reducible refine Nat.le_trans ?_ (sizeSet _ _ _)) | (with_reducible refine Nat.le_trans ?_ (sizeDrew _))))⟩
                      case true =>
                        have HE : Hid (vC [z0, z1] inc del 0 si true true = false) := by unfold Hid; rw [HS.out, q0, q1, q2, q3, q4, q5]; simp [r0]
                        go_enter Tryd.func17, Tryd.ntmps17
                        go_wp2_with (first | (go_at_call 22; refine (isTime_any _ _).mono ?_; rintro e w_ ⟨rfl, rfl⟩) | (go_at_call 37; refine (isPlayer_any _ _).mono ?_; rintro e w_ ⟨rfl, rfl⟩))
                        all_goals (try (go_quiet (fail); go_wp2_with (first | (go_at_call 22; refine (isTime_any _ _).mono ?_; rintro e w_ ⟨rfl, rfl⟩) | (go_at_call 37; refine (isPlayer_any _ _).mono ?_; rintro e w_ ⟨rfl, rfl⟩))))
                        all_goals
                          go_ret
                          exact ⟨by rw [HE.out]; rfl, by (repeat' (first | (with_reducible exact Below.refl _ _) | (with_reducible assumption) | (with_reducible refine Below.alloc ?_ ?_ _) | (with_reducible refine Below.drew ?_) | (with_reducible refine belowDrewN ?_ _) | (with_reducible refine Below.setCell ?_ ?_ _) | (with_reducible refine Below.via (by with_reducible assumption) ?_ ?_) | (with_reducible refine Below.viaD (by with_reducible assumption) ?_ ?_) | (with_reducible exact Below.size (by with_reducible assumption)) | go_size | (with_reducible refine Nat.le_trans ?_ (Below.size (by with_reducible assumption))) | (with_reducible refine Nat.le_trans ?_ (sizeAlloc _ _)) | (with_reducible refine Nat.le_trans ?_ (sizeSet _ _ _)) | (with_reducible refine Nat.le_trans ?_ (sizeDrew _))))⟩
                  ·
                    cases r0 : (z1 == 0)
                    case false =>
                      have HE : Hid (vC [z0, z1] inc del 1 si ru true = false) := by unfold Hid; rw [HS.out]; simp [r0]
                      go_enter Tryd.func17, Tryd.ntmps17
                      go_wp2_with (first | (go_at_call 22; refine (isTime_any _ _).mono ?_; rintro e w_ ⟨rfl, rfl⟩) | (go_at_call 37; refine (isPlayer_any _ _).mono ?_; rintro e w_ ⟨rfl, rfl⟩))
                      all_goals (try (go_quiet (fail); go_wp2_with (first | (go_at_call 22; refine (isTime_any _ _).mono ?_; rintro e w_ ⟨rfl, rfl⟩) | (go_at_call 37; refine (isPlayer_any _ _).mono ?_; rintro e w_ ⟨rfl, rfl⟩))))
                      all_goals
                        go_ret
                        exact ⟨by rw [HE.out]; rfl, by (repeat' (first | (with_reducible exact Below.refl _ _) | (with_reducible assumption) | (with_reducible refine Below.alloc ?_ ?_ _) | (with_reducible refine Below.drew ?_) | (with_reducible refine belowDrewN ?_ _) | (with_reducible refine Below.setCell ?_ ?_ _) | (with_reducible refine Below.via (by with_reducible assumption) ?_ ?_) | (with_reducible refine Below.viaD (by with_reducible assumption) ?_ ?_) | (with_reducible exact Below.size (by with_reducible assumption)) | go_size | (with_reducible refine Nat.le_trans ?_ (Below.size (by with_reducible assumption))) | (with_reducible refine Nat.le_trans ?_ (sizeAlloc _ _)) | (with_reducible refine Nat.le_trans ?_ (sizeSet _ _ _)) | (with_reducible refine Nat.le_trans ?_ (sizeDrew _))))⟩
                    case true =>
                      cases ru
                      case false =>
                        have HE : Hid (vC [z0, z1] inc del 1 si false true = (si == 0)) := by unfold Hid; rw [HS.out, q0, q1, q2, q3, q4, q5]; simp [r0]
                        go_enter Tryd.func17, Tryd.ntmps17
                        go_wp2_with (first | (go_at_call 22; refine (isTime_any _ _).mono ?_; rintro e w_ ⟨rfl, rfl⟩) | (go_at_call 37; refine (isPlayer_any _ _).mono ?_; rintro e w_ ⟨rfl, rfl⟩))
                        all_goals (try (go_quiet (fail); go_wp2_with (first | (go_at_call 22; refine (isTime_any _ _).mono ?_; rintro e w_ ⟨rfl, rfl⟩) | (go_at_call 37; refine (isPlayer_any _ _).mono ?_; rintro e w_ ⟨rfl, rfl⟩))))
                        all_goals
                          go_ret
                          exact ⟨by rw [HE.out]; rfl, by (repeat' (first | (with_reducible exact Below.refl _ _) | (with_reducible assumption) | (with_reducible refine Below.alloc ?_ ?_ _) | (with_reducible refine Below.drew ?_) | (with_reducible refine belowDrewN ?_ _) | (with_reducible refine Below.setCell ?_ ?_ _) | (with_reducible refine Below.via (by with_reducible assumption) ?_ ?_) | (with_reducible refine Below.viaD (by with_reducible assumption) ?_ ?_) | (with_reducible exact Below.size (by with_reducible assumption)) | go_size | (with_reducible refine Nat.le_trans ?_ (Below.size (by with_reducible assumption))) | (with_reducible refine Nat.le_trans ?_ (sizeAlloc _ _)) | (with_reducible refine Nat.le_trans ?_ (sizeSet _ _ _)) | (with_reducible refine Nat.le_trans ?_ (sizeDrew _))))⟩
                      case true =>
                        have HE : Hid (vC [z0, z1] inc del 1 si true true = false) := by unfold Hid; rw [HS.out, q0, q1, q2, q3, q4, q5]; simp [r0]
                        go_enter Tryd.func17, Tryd.ntmps17
                        go_wp2_with (first | (go_at_call 22; refine (isTime_any _ _).mono ?_; rintro e w_ ⟨rfl, rfl⟩) | (go_at_call 37; refine (isPlayer_any _ _).mono ?_; rintro e w_ ⟨rfl, rfl⟩))
                        all_goals (try (go_quiet (fail); go_wp2_with (first | (go_at_call 22; refine (isTime_any _ _).mono ?_; rintro e w_ ⟨rfl, rfl⟩) | (go_at_call 37; refine (isPlayer_any _ _).mono ?_; rintro e w_ ⟨rfl, rfl⟩))))
                        all_goals
                          go_ret
                          exact ⟨by rw [HE.out]; rfl, by (repeat' (first | (with_reducible exact Below.refl _ _) | (with_reducible assumption) | (with_reducible refine Below.alloc ?_ ?_ _) | (with_reducible refine Below.drew ?_) | (with_reducible refine belowDrewN ?_ _) | (with_reducible refine Below.setCell ?_ ?_ _) | (with_reducible refine Below.via (by with_reducible assumption) ?_ ?_) | (with_reducible refine Below.viaD (by with_reducible assumption) ?_ ?_) | (with_reducible exact Below.size (by with_reducible assumption)) | go_size | (with_reducible refine Nat.le_trans ?_ (Below.size (by with_reducible assumption))) | (with_reducible refine Nat.le_trans ?_ (sizeAlloc _ _)) | (with_reducible refine Nat.le_trans ?_ (sizeSet _ _ _)) | (with_reducible refine Nat.le_trans ?_ (sizeDrew _))))⟩
set_option maxRecDepth 100000 in
set_option maxHeartbeats 4000000 in
theorem l23Ok_any (A : Option Addr) (n c : Nat) (zs : List Int) (inc del pl si : Int) (ru fa : Bool) (b0 : Nat) (w : World) (hs : Sl w w.heap.size 1 A n (zs.map (Value.int .i64))) (p0 : w.cell? ⟨b0, 0, none⟩ = some (.slice A n c)) (p1 : w.cell? ⟨b0, 1, none⟩ = some (.int .i64 inc)) (p2 : w.cell? ⟨b0, 2, none⟩ = some (.int .i64 del)) (p3 : w.cell? ⟨b0, 3, none⟩ = some (.int .i64 pl)) (p4 : w.cell? ⟨b0, 4, none⟩ = some (.int .i64 si)) (p5 : w.cell? ⟨b0, 5, none⟩ = some (.bool ru)) (p6 : w.cell? ⟨b0, 6, none⟩ = some (.bool fa)) (hn : n ≤ 9223372036854775807) :
    Calls Tryd.prog 60 #[.pointer (some ⟨b0, 0, none⟩)] w fun e w' => e = .returned (.bool (vC zs inc del pl si ru fa)) ∧ Below w.heap.size w w' := by
  have hl := hs.ints
  by_cases h2 : n = 2
  case neg =>
    have HE : Hid (vC zs inc del pl si ru fa = false) := vC_len (by omega)
    have hq : ((n : Int) == 2) = false := by rw [beq_eq_false_iff_ne]; omega
    have hq2 : ((n : Int) != 2) = true := by rw [bne, hq]; rfl
    clear hl h2
    go_enter Tryd.func60, Tryd.ntmps60
    go_wp2_with (first | (go_at_call 30; refine (l23Time_any _ _).mono ?_; rintro e w_ ⟨rfl, rfl⟩) | (go_at_call 32; refine (l00In_any _ _ _ _).mono ?_; rintro e w_ ⟨rfl, rfl⟩))
    all_goals (try (go_quiet (fail); go_wp2_with (first | (go_at_call 30; refine (l23Time_any _ _).mono ?_; rintro e w_ ⟨rfl, rfl⟩) | (go_at_call 32; refine (l00In_any _ _ _ _).mono ?_; rintro e w_ ⟨rfl, rfl⟩))))
    all_goals
      go_ret
      exact ⟨by rw [HE.out]; rfl, by (repeat' (first | (with_reducible exact Below.refl _ _) | (with_reducible assumption) | (with_reducible refine Below.alloc ?_ ?_ _) | (with_reducible refine Below.drew ?_) | (with_reducible refine belowDrewN ?_ _) | (with_reducible refine Below.setCell ?_ ?_ _) | (with_reducible refine Below.via (by with_reducible assumption) ?_ ?_) | (with_reducible refine Below.viaD (by with_reducible assumption) ?_ ?_) | (with_reducible exact Below.size (by with_reducible assumption)) | go_size | (with_reducible refine Nat.le_trans ?_ (Below.size (by with_reducible assumption))) | (with_reducible refine Nat.le_trans ?_ (sizeAlloc _ _)) | (with_reducible refine Nat.le_trans ?_ (sizeSet _ _ _)) | (with_reducible refine Nat.le_trans ?_ (sizeDrew _))))⟩
  case pos =>
    subst h2
    obtain ⟨z0, z1, rfl⟩ := list2 hl
    obtain ⟨b, off, rfl, hb, hc⟩ := hs.2 (by omega)
    have hc0 := hc 0 _ rfl
    have hc1 := hc 1 _ rfl
    rw [Nat.add_zero] at hc0
    have HS := Lib.hid (vC_two z0 z1 inc del pl si ru fa)
    clear hc hl hs
    cases q0 : tB z0
    case false =>
      have HE : Hid (vC [z0, z1] inc del pl si ru fa = false) := by unfold Hid; rw [HS.out, q0]; simp
      go_enter Tryd.func60, Tryd.ntmps60
      go_wp2_with (first | (go_at_call 30; refine (l23Time_any _ _).mono ?_; rintro e w_ ⟨rfl, rfl⟩) | (go_at_call 32; refine (l00In_any _ _ _ _).mono ?_; rintro e w_ ⟨rfl, rfl⟩))
      all_goals (try (go_quiet (fail); go_wp2_with (first | (go_at_call 30; refine (l23Time_any _ _).mono ?_; rintro e w_ ⟨rfl, rfl⟩) | (go_at_call 32; refine (l00In_any _ _ _ _).mono ?_; rintro e w_ ⟨rfl, rfl⟩))))
      all_goals
        go_ret
        exact ⟨by rw [HE.out]; rfl, by (repeat' (first | (with_reducible exact Below.refl _ _) | (with_reducible assumption) | (with_reducible refine Below.alloc ?_ ?_ _) | (with_reducible refine Below.drew ?_) | (with_reducible refine belowDrewN ?_ _) | (with_reducible refine Below.setCell ?_ ?_ _) | (with_reducible refine Below.via (by with_reducible assumption) ?_ ?_) | (with_reducible refine Below.viaD (by with_reducible assumption) ?_ ?_) | (with_reducible exact Below.size (by with_reducible assumption)) | go_size | (with_reducible refine Nat.le_trans ?_ (Below.size (by with_reducible assumption))) | (with_reducible refine Nat.le_trans ?_ (sizeAlloc _ _)) | (with_reducible refine Nat.le_trans ?_ (sizeSet _ _ _)) | (with_reducible refine Nat.le_trans ?_ (sizeDrew _))))⟩
    case true =>
      cases q1 : tB z1
      case false =>
        have HE : Hid (vC [z0, z1] inc del pl si ru fa = false) := by unfold Hid; rw [HS.out, q1]; simp
        go_enter Tryd.func60, Tryd.ntmps60
        go_wp2_with (first | (go_at_call 30; refine (l23Time_any _ _).mono ?_; rintro e w_ ⟨rfl, rfl⟩) | (go_at_call 32; refine (l00In_any _ _ _ _).mono ?_; rintro e w_ ⟨rfl, rfl⟩))
        all_goals (try (go_quiet (fail); go_wp2_with (first | (go_at_call 30; refine (l23Time_any _ _).mono ?_; rintro e w_ ⟨rfl, rfl⟩) | (go_at_call 32; refine (l00In_any _ _ _ _).mono ?_; rintro e w_ ⟨rfl, rfl⟩))))
        all_goals
          go_ret
          exact ⟨by rw [HE.out]; rfl, by (repeat' (first | (with_reducible exact Below.refl _ _) | (with_reducible assumption) | (with_reducible refine Below.alloc ?_ ?_ _) | (with_reducible refine Below.drew ?_) | (with_reducible refine belowDrewN ?_ _) | (with_reducible refine Below.setCell ?_ ?_ _) | (with_reducible refine Below.via (by with_reducible assumption) ?_ ?_) | (with_reducible refine Below.viaD (by with_reducible assumption) ?_ ?_) | (with_reducible exact Below.size (by with_reducible assumption)) | go_size | (with_reducible refine Nat.le_trans ?_ (Below.size (by with_reducible assumption))) | (with_reducible refine Nat.le_trans ?_ (sizeAlloc _ _)) | (with_reducible refine Nat.le_trans ?_ (sizeSet _ _ _)) | (with_reducible refine Nat.le_trans ?_ (sizeDrew _))))⟩
      case true =>
        cases q2 : tB inc
        case false =>
          have HE : Hid (vC [z0, z1] inc del pl si ru fa = false) := by unfold Hid; rw [HS.out, q2]; simp
          go_enter Tryd.func60, Tryd.ntmps60
          go_wp2_with (first | (go_at_call 30; refine (l23Time_any _ _).mono ?_; rintro e w_ ⟨rfl, rfl⟩) | (go_at_call 32; refine (l00In_any _ _ _ _).mono ?_; rintro e w_ ⟨rfl, rfl⟩))
          all_goals (try (go_quiet (fail); go_wp2_with (first | (go_at_call 30; refine (l23Time_any _ _).mono ?_; rintro e w_ ⟨rfl, rfl⟩) | (go_at_call 32; refine (l00In_any _ _ _ _).mono ?_; rintro e w_ ⟨rfl, rfl⟩))))
          all_goals
            go_ret
            exact ⟨by rw [HE.out]; rfl, by (repeat' (first | (with_reducible exact Below.refl _ _) | (with_reducible assumption) | (with_reducible refine Below.alloc ?_ ?_ _) | (with_reducible refine Below.drew ?_) | (with_reducible refine belowDrewN ?_ _) | (with_reducible refine Below.setCell ?_ ?_ _) | (with_reducible refine Below.via (by with_reducible assumption) ?_ ?_) | (with_reducible refine Below.viaD (by with_reducible assumption) ?_ ?_) | (with_reducible exact Below.size (by with_reducible assumption)) | go_size | (with_reducible refine Nat.le_trans ?_ (Below.size (by with_reducible assumption))) | (with_reducible refine Nat.le_trans ?_ (sizeAlloc _ _)) | (with_reducible refine Nat.le_trans ?_ (sizeSet _ _ _)) | (with_reducible refine Nat.le_trans ?_ (sizeDrew _))))⟩
        case true =>
          cases q3 : tB del
          case false =>
            have HE : Hid (vC [z0, z1] inc del pl si ru fa = false) := by unfold Hid; rw [HS.out, q3]; simp
            go_enter Tryd.func60, Tryd.ntmps60
            go_wp2_with (first | (go_at_call 30; refine (l23Time_any _ _).mono ?_; rintro e w_ ⟨rfl, rfl⟩) | (go_at_call 32; refine (l00In_any _ _ _ _).mono ?_; rintro e w_ ⟨rfl, rfl⟩))
            all_goals (try (go_quiet (fail); go_wp2_with (first | (go_at_call 30; refine (l23Time_any _ _).mono ?_; rintro e w_ ⟨rfl, rfl⟩) | (go_at_call 32; refine (l00In_any _ _ _ _).mono ?_; rintro e w_ ⟨rfl, rfl⟩))))
            all_goals
              go_ret
              exact ⟨by rw [HE.out]; rfl, by (repeat' (first | (with_reducible exact Below.refl _ _) | (with_reducible assumption) | (with_reducible refine Below.alloc ?_ ?_ _) | (with_reducible refine Below.drew ?_) | (with_reducible refine belowDrewN ?_ _) | (with_reducible refine Below.setCell ?_ ?_ _) | (with_reducible refine Below.via (by with_reducible assumption) ?_ ?_) | (with_reducible refine Below.viaD (by with_reducible assumption) ?_ ?_) | (with_reducible exact Below.size (by with_reducible assumption)) | go_size | (with_reducible refine Nat.le_trans ?_ (Below.size (by with_reducible assumption))) | (with_reducible refine Nat.le_trans ?_ (sizeAlloc _ _)) | (with_reducible refine Nat.le_trans ?_ (sizeSet _ _ _)) | (with_reducible refine Nat.le_trans ?_ (sizeDrew _))))⟩
          case true =>
            cases q4 : tB si
            case false =>
              have HE : Hid (vC [z0, z1] inc del pl si ru fa = false) := by unfold Hid; rw [HS.out, q4]; simp
              go_enter Tryd.func60, Tryd.ntmps60
              go_wp2_with (first | (go_at_call 30; refine (l23Time_any _ _).mono ?_; rintro e w_ ⟨rfl, rfl⟩) | (go_at_call 32; refine (l00In_any _ _ _ _).mono ?_; rintro e w_ ⟨rfl, rfl⟩))
              all_goals (try (go_quiet (fail); go_wp2_with (first | (go_at_call 30; refine (l23Time_any _ _).mono ?_; rintro e w_ ⟨rfl, rfl⟩) | (go_at_call 32; refine (l00In_any _ _ _ _).mono ?_; rintro e w_ ⟨rfl, rfl⟩))))
              all_goals
                go_ret
                exact ⟨by rw [HE.out]; rfl, by (repeat' (first | (with_reducible exact Below.refl _ _) | (with_reducible assumption) | (with_reducible refine Below.alloc ?_ ?_ _) | (with_reducible refine Below.drew ?_) | (with_reducible refine belowDrewN ?_ _) | (with_reducible refine Below.setCell ?_ ?_ _) | (with_reducible refine Below.via (by with_reducible assumption) ?_ ?_) | (with_reducible refine Below.viaD (by with_reducible assumption) ?_ ?_) | (with_reducible exact Below.size (by with_reducible assumption)) | go_size | (with_reducible refine Nat.le_trans ?_ (Below.size (by with_reducible assumption))) | (with_reducible refine Nat.le_trans ?_ (sizeAlloc _ _)) | (with_reducible refine Nat.le_trans ?_ (sizeSet _ _ _)) | (with_reducible refine Nat.le_trans ?_ (sizeDrew _))))⟩
            case true =>
              cases q5 : inB pl 0 1
              case false =>
                have HE : Hid (vC [z0, z1] inc del pl si ru fa = false) := by unfold Hid; rw [HS.out, q5]; simp
                go_enter Tryd.func60, Tryd.ntmps60
                go_wp2_with (first | (go_at_call 30; refine (l23Time_any _ _).mono ?_; rintro e w_ ⟨rfl, rfl⟩) | (go_at_call 32; refine (l00In_any _ _ _ _).mono ?_; rintro e w_ ⟨rfl, rfl⟩))
                all_goals (try (go_quiet (fail); go_wp2_with (first | (go_at_call 30; refine (l23Time_any _ _).mono ?_; rintro e w_ ⟨rfl, rfl⟩) | (go_at_call 32; refine (l00In_any _ _ _ _).mono ?_; rintro e w_ ⟨rfl, rfl⟩))))
                all_goals
                  go_ret
                  exact ⟨by rw [HE.out]; rfl, by (repeat' (first | (with_reducible exact Below.refl _ _) | (with_reducible assumption) | (with_reducible refine Below.alloc ?_ ?_ _) | (with_reducible refine Below.drew ?_) | (with_reducible refine belowDrewN ?_ _) | (with_reducible refine Below.setCell ?_ ?_ _) | (with_reducible refine Below.via (by with_reducible assumption) ?_ ?_) | (with_reducible refine Below.viaD (by with_reducible assumption) ?_ ?_) | (with_reducible exact Below.size (by with_reducible assumption)) | go_size | (with_reducible refine Nat.le_trans ?_ (Below.size (by with_reducible assumption))) | (with_reducible refine Nat.le_trans ?_ (sizeAlloc _ _)) | (with_reducible refine Nat.le_trans ?_ (sizeSet _ _ _)) | (with_reducible refine Nat.le_trans ?_ (sizeDrew _))))⟩
              case true =>
                cases fa
                case false =>
                  by_cases r0 : 0 < z0
                  case neg =>
                    have HE : Hid (vC [z0, z1] inc del pl si ru false = false) := by unfold Hid; rw [HS.out, decide_eq_false r0]; simp
                    have r0' : z0 ≤ 0 := by omega
                    clear r0
                    go_enter Tryd.func60, Tryd.ntmps60
                    go_wp2_with (first | (go_at_call 30; refine (l23Time_any _ _).mono ?_; rintro e w_ ⟨rfl, rfl⟩) | (go_at_call 32; refine (l00In_any _ _ _ _).mono ?_; rintro e w_ ⟨rfl, rfl⟩))
                    all_goals (try (go_quiet (fail); go_wp2_with (first | (go_at_call 30; refine (l23Time_any _ _).mono ?_; rintro e w_ ⟨rfl, rfl⟩) | (go_at_call 32; refine (l00In_any _ _ _ _).mono ?_; rintro e w_ ⟨rfl, rfl⟩))))
                    all_goals
                      go_ret
                      exact ⟨by rw [HE.out]; rfl, by (repeat' (first | (with_reducible exact Below.refl _ _) | (with_reducible assumption) | (with_reducible refine Below.alloc ?_ ?_ _) | (with_reducible refine Below.drew ?_) | (with_reducible refine belowDrewN ?_ _) | (with_reducible refine Below.setCell ?_ ?_ _) | (with_reducible refine Below.via (by with_reducible assumption) ?_ ?_) | (with_reducible refine Below.viaD (by with_reducible assumption) ?_ ?_) | (with_reducible exact Below.size (by with_reducible assumption)) | go_size | (with_reducible refine Nat.le_trans ?_ (Below.size (by with_reducible assumption))) | (with_reducible refine Nat.le_trans ?_ (sizeAlloc _ _)) | (with_reducible refine Nat.le_trans ?_ (sizeSet _ _ _)) | (with_reducible refine Nat.le_trans ?_ (sizeDrew _))))⟩
                  case pos =>
                    by_cases r1 : 0 < z1
                    case neg =>
                      have HE : Hid (vC [z0, z1] inc del pl si ru false = false) := by unfold Hid; rw [HS.out, decide_eq_false r1]; simp
                      have r1' : z1 ≤ 0 := by omega
                      clear r1
                      go_enter Tryd.func60, Tryd.ntmps60
                      go_wp2_with (first | (go_at_call 30; refine (l23Time_any _ _).mono ?_; rintro e w_ ⟨rfl, rfl⟩) | (go_at_call 32; refine (l00In_any _ _ _ _).mono ?_; rintro e w_ ⟨rfl, rfl⟩))
                      all_goals (try (go_quiet (fail); go_wp2_with (first | (go_at_call 30; refine (l23Time_any _ _).mono ?_; rintro e w_ ⟨rfl, rfl⟩) | (go_at_call 32; refine (l00In_any _ _ _ _).mono ?_; rintro e w_ ⟨rfl, rfl⟩))))
                      all_goals
                        go_ret
                        exact ⟨by rw [HE.out]; rfl, by (repeat' (first | (with_reducible exact Below.refl _ _) | (with_reducible assumption) | (with_reducible refine Below.alloc ?_ ?_ _) | (with_reducible refine Below.drew ?_) | (with_reducible refine belowDrewN ?_ _) | (with_reducible refine Below.setCell ?_ ?_ _) | (with_reducible refine Below.via (by with_reducible assumption) ?_ ?_) | (with_reducible refine Below.viaD (by with_reducible assumption) ?_ ?_) | (with_reducible exact Below.size (by with_reducible assumption)) | go_size | (with_reducible refine Nat.le_trans ?_ (Below.size (by with_reducible assumption))) | (with_reducible refine Nat.le_trans ?_ (sizeAlloc _ _)) | (with_reducible refine Nat.le_trans ?_ (sizeSet _ _ _)) | (with_reducible refine Nat.le_trans ?_ (sizeDrew _))))⟩
                    case pos =>
                      cases ru
                      case false =>
                        have HE : Hid (vC [z0, z1] inc del pl si false false = (si == 0)) := by unfold Hid; rw [HS.out, q0, q1, q2, q3, q4, q5, decide_eq_true r0, decide_eq_true r1]; simp
                        go_enter Tryd.func60, Tryd.ntmps60
                        go_wp2_with (first | (go_at_call 30; refine (l23Time_any _ _).mono ?_; rintro e w_ ⟨rfl, rfl⟩) | (go_at_call 32; refine (l00In_any _ _ _ _).mono ?_; rintro e w_ ⟨rfl, rfl⟩))
                        all_goals (try (go_quiet (fail); go_wp2_with (first | (go_at_call 30; refine (l23Time_any _ _).mono ?_; rintro e w_ ⟨rfl, rfl⟩) | (go_at_call 32; refine (l00In_any _ _ _ _).mono ?_; rintro e w_ ⟨rfl, rfl⟩))))
                        all_goals
                          go_ret
                          exact ⟨by rw [HE.out]; rfl, by (repeat' (first | (with_reducible exact Below.refl _ _) | (with_reducible assumption) | (with_reducible refine Below.alloc ?_ ?_ _) | (with_reducible refine Below.drew ?_) | (with_reducible refine belowDrewN ?_ _) | (with_reducible refine Below.setCell ?_ ?_ _) | (with_reducible refine Below.via (by with_reducible assumption) ?_ ?_) | (with_reducible refine Below.viaD (by with_reducible assumption) ?_ ?_) | (with_reducible exact Below.size (by with_reducible assumption)) | go_size | (with_reducible refine Nat.le_trans ?_ (Below.size (by with_reducible assumption))) | (with_reducible refine Nat.le_trans ?_ (sizeAlloc _ _)) | (with_reducible refine Nat.le_trans ?_ (sizeSet _ _ _)) | (with_reducible refine Nat.le_trans ?_ (sizeDrew _))))⟩
                      case true =>
                        have HE : Hid (vC [z0, z1] inc del pl si true false = true) := by unfold Hid; rw [HS.out, q0, q1, q2, q3, q4, q5, decide_eq_true r0, decide_eq_true r1]; simp
                        go_enter Tryd.func60, Tryd.ntmps60
                        go_wp2_with (first | (go_at_call 30; refine (l23Time_any _ _).mono ?_; rintro e w_ ⟨rfl, rfl⟩) | (go_at_call 32; refine (l00In_any _ _ _ _).mono ?_; rintro e w_ ⟨rfl, rfl⟩))
                        all_goals (try (go_quiet (fail); go_wp2_with (first | (go_at_call 30; refine (l23Time_any _ _).mono ?_; rintro e w_ ⟨rfl, rfl⟩) | (go_at_call 32; refine (l00In_any _ _ _ _).mono ?_; rintro e w_ ⟨rfl, rfl⟩))))
                        all_goals
                          go_ret
                          exact ⟨by rw [HE.out]; rfl, by (repeat' (first | (with_reducible exact Below.refl _ _) | (with_reducible assumption) | (with_reducible refine Below.alloc ?_ ?_ _) | (with_reducible refine Below.drew ?_) | (with_reducible refine belowDrewN ?_ _) | (with_reducible refine Below.setCell ?_ ?_ _) | (with_reducible refine Below.via (by with_reducible assumption) ?_ ?_) | (with_reducible refine Below.viaD (by with_reducible assumption) ?_ ?_) | (with_reducible exact Below.size (by with_reducible assumption)) | go_size | (with_reducible refine Nat.le_trans ?_ (Below.size (by with_reducible assumption))) | (with_reducible refine Nat.le_trans ?_ (sizeAlloc _ _)) | (with_reducible refine Nat.le_trans ?_ (sizeSet _ _ _)) | (with_reducible refine Nat.le_trans ?_ (sizeDrew _))))⟩
                case true =>
                  have hpl := inB_of q5
                  have hpl' : pl = 0 ∨ pl = 1 := by omega
                  rcases hpl' with rfl | rfl
                  ·
                    cases r0 : (z0 == 0)
                    case false =>
                      have HE : Hid (vC [z0, z1] inc del 0 si ru true = false) := by unfold Hid; rw [HS.out]; simp [r0]
                      go_enter Tryd.func60, Tryd.ntmps60
                      go_wp2_with (first | (go_at_call 30; refine (l23Time_any _ _).mono ?_; rintro e w_ ⟨rfl, rfl⟩) | (go_at_call 32; refine (l00In_any _ _ _ _).mono ?_; rintro e w_ ⟨rfl, rfl⟩))
                      all_goals (try (go_quiet (fail); go_wp2_with (first | (go_at_call 30; refine (l23Time_any _ _).mono ?_; rintro e w_ ⟨rfl, rfl⟩) | (go_at_call 32; refine (l00In_any _ _ _ _).mono ?_; rintro e w_ ⟨rfl, rfl⟩))))
                      all_goals
                        go_ret
                        exact ⟨by rw [HE.out]; rfl, by (repeat' (first | (with_reducible exact Below.refl _ _) | (with_reducible assumption) | (with_reducible refine Below.alloc ?_ ?_ _) | (with_reducible refine Below.drew ?_) | (with_reducible refine belowDrewN ?_ _) | (with_reducible refine Below.setCell ?_ ?_ _) | (with_reducible refine Below.via (by with_reducible assumption) ?_ ?_) | (with_reducible refine Below.viaD (by with_reducible assumption) ?_ ?_) | (with_reducible exact Below.size (by with_reducible assumption)) | go_size | (with_reducible refine Nat.le_trans ?_ (Below.size (by with_reducible assumption))) | (with_reducible refine Nat.le_trans ?_ (sizeAlloc _ _)) | (with_reducible refine Nat.le_trans ?_ (sizeSet _ _ _)) | (with_reducible refine Nat.le_trans ?_ (sizeDrew _))))⟩
                    case true =>
                      cases ru
                      case false =>
                        have HE : Hid (vC [z0, z1] inc del 0 si false true = (si == 0)) := by unfold Hid; rw [HS.out, q0, q1, q2, q3, q4, q5]; simp [r0]
                        go_enter Tryd.func60, Tryd.ntmps60
                        go_wp2_with (first | (go_at_call 30; refine (l23Time_any _ _).mono ?_; rintro e w_ ⟨rfl, rfl⟩) | (go_at_call 32; refine (l00In_any _ _ _ _).mono ?_; rintro e w_ ⟨rfl, rfl⟩))
                        all_goals (try (go_quiet (fail); go_wp2_with (first | (go_at_call 30; refine (l23Time_any _ _).mono ?_; rintro e w_ ⟨rfl, rfl⟩) | (go_at_call 32; refine (l00In_any _ _ _ _).mono ?_; rintro e w_ ⟨rfl, rfl⟩))))
                        all_goals
                          go_ret
                          exact ⟨by rw [HE.out]; rfl, by (repeat' (first | (with_reducible exact Below.refl _ _) | (with_reducible assumption) | (with_reducible refine Below.alloc ?_ ?_ _) | (with_reducible refine Below.drew ?_) | (with_reducible refine belowDrewN ?_ _) | (with_reducible refine Below.setCell ?_ ?_ _) | (with_reducible refine Below.via (by with_reducible assumption) ?_ ?_) | (with_reducible refine Below.viaD (by with_reducible assumption) ?_ ?_) | (with_reducible exact Below.size (by with_reducible assumption)) | go_size | (with_reducible refine Nat.le_trans ?_ (Below.size (by with_reducible assumption))) | (with_reducible refine Nat.le_trans ?_ (sizeAlloc _ _)) | (with_reducible refine Nat.le_trans ?_ (sizeSet _ _ _)) | (with_reducible refine Nat.le_trans ?_ (sizeDrew _))))⟩
                      case true =>
                        have HE : Hid (vC [z0, z1] inc del 0 si true true = false) := by unfold Hid; rw [HS.out, q0, q1, q2, q3, q4, q5]; simp [r0]
                        go_enter Tryd.func60, Tryd.ntmps60
                        go_wp2_with (first | (go_at_call 30; refine (l23Time_any _ _).mono ?_; rintro e w_ ⟨rfl, rfl⟩) | (go_at_call 32; refine (l00In_any _ _ _ _).mono ?_; rintro e w_ ⟨rfl, rfl⟩))
                        all_goals (try (go_quiet (fail); go_wp2_with (first | (go_at_call 30; refine (l23Time_any _ _).mono ?_; rintro e w_ ⟨rfl, rfl⟩) | (go_at_call 32; refine (l00In_any _ _ _ _).mono ?_; rintro e w_ ⟨rfl, rfl⟩))))
                        all_goals
                          go_ret
                          exact ⟨by rw [HE.out]; rfl, by (repeat' (first | (with_reducible exact Below.refl _ _) | (with_reducible assumption) | (with_reducible refine Below.alloc ?_ ?_ _) | (with_reducible refine Below.drew ?_) | (with_reducible refine belowDrewN ?_ _) | (with_reducible refine Below.setCell ?_ ?_ _) | (with_reducible refine Below.via (by with_reducible assumption) ?_ ?_) | (with_reducible refine Below.viaD (by with_reducible assumption) ?_ ?_) | (with_reducible exact Below.size (by with_reducible assumption)) | go_size | (with_reducible refine Nat.le_trans ?_ (Below.size (by with_reducible assumption))) | (with_reducible refine Nat.le_trans ?_ (sizeAlloc _ _)) | (with_reducible refine Nat.le_trans ?_ (sizeSet _ _ _)) | (with_reducible refine Nat.le_trans ?_ (sizeDrew _))))⟩
                  ·
                    cases r0 : (z1 == 0)
                    case false =>
                      have HE : Hid (vC [z0, z1] inc del 1 si ru true = false) := by unfold Hid; rw [HS.out]; simp [r0]
                      go_enter Tryd.func60, Tryd.ntmps60
                      go_wp2_with (first | (go_at_call 30; refine (l23Time_any _ _).mono ?_; rintro e w_ ⟨rfl, rfl⟩) | (go_at_call 32; refine (l00In_any _ _ _ _).mono ?_; rintro e w_ ⟨rfl, rfl⟩))
                      all_goals (try (go_quiet (fail); go_wp2_with (first | (go_at_call 30; refine (l23Time_any _ _).mono ?_; rintro e w_ ⟨rfl, rfl⟩) | (go_at_call 32; refine (l00In_any _ _ _ _).mono ?_; rintro e w_ ⟨rfl, rfl⟩))))
                      all_goals
                        go_ret
                        exact ⟨by rw [HE.out]; rfl, by (repeat' (first | (with_reducible exact Below.refl _ _) | (with_reducible assumption) | (with_reducible refine Below.alloc ?_ ?_ _) | (with_reducible refine Below.drew ?_) | (with_reducible refine belowDrewN ?_ _) | (with_reducible refine Below.setCell ?_ ?_ _) | (with_reducible refine Below.via (by with_reducible assumption) ?_ ?_) | (with_reducible refine Below.viaD (by with_reducible assumption) ?_ ?_) | (with_reducible exact Below.size (by with_reducible assumption)) | go_size | (with_reducible refine Nat.le_trans ?_ (Below.size (by with_reducible assumption))) | (with_reducible refine Nat.le_trans ?_ (sizeAlloc _ _)) | (with_reducible refine Nat.le_trans ?_ (sizeSet _ _ _)) | (with_reducible refine Nat.le_trans ?_ (sizeDrew _))))⟩
                    case true =>
                      cases ru
                      case false =>
                        have HE : Hid (vC [z0, z1] inc del 1 si false true = (si == 0)) := by unfold Hid; rw [HS.out, q0, q1, q2, q3, q4, q5]; simp [r0]
                        go_enter Tryd.func60, Tryd.ntmps60
                        go_wp2_with (first | (go_at_call 30; refine (l23Time_any _ _).mono ?_; rintro e w_ ⟨rfl, rfl⟩) | (go_at_call 32; refine (l00In_any _ _ _ _).mono ?_; rintro e w_ ⟨rfl, rfl⟩))
                        all_goals (try (go_quiet (fail); go_wp2_with (first | (go_at_call 30; refine (l23Time_any _ _).mono ?_; rintro e w_ ⟨rfl, rfl⟩) | (go_at_call 32; refine (l00In_any _ _ _ _).mono ?_; rintro e w_ ⟨rfl, rfl⟩))))
                        all_goals
                          go_ret
                          exact ⟨by rw [HE.out]; rfl, by (repeat' (first | (with_reducible exact Below.refl _ _) | (with_reducible assumption) | (with_reducible refine Below.alloc ?_ ?_ _) | (with_reducible refine Below.drew ?_) | (with_reducible refine belowDrewN ?_ _) | (with_reducible refine Below.setCell ?_ ?_ _) | (with_reducible refine Below.via (by with_reducible assumption) ?_ ?_) | (with_reducible refine Below.viaD (by with_reducible assumption) ?_ ?_) | (with_reducible exact Below.size (by with_reducible assumption)) | go_size | (with_reducible refine Nat.le_trans ?_ (Below.size (by with_reducible assumption))) | (with_reducible refine Nat.le_trans ?_ (sizeAlloc _ _)) | (with_reducible refine Nat.le_trans ?_ (sizeSet _ _ _)) | (with_reducible refine Nat.le_trans ?_ (sizeDrew _))))⟩
                      case true =>
                        have HE : Hid (vC [z0, z1] inc del 1 si true true = false) := by unfold Hid; rw [HS.out, q0, q1, q2, q3, q4, q5]; simp [r0]
                        go_enter Tryd.func60, Tryd.ntmps60
                        go_wp2_with (first | (go_at_call 30; refine (l23Time_any _ _).mono ?_; rintro e w_ ⟨rfl, rfl⟩) | (go_at_call 32; refine (l00In_any _ _ _ _).mono ?_; rintro e w_ ⟨rfl, rfl⟩))
                        all_goals (try (go_quiet (fail); go_wp2_with (first | (go_at_call 30; refine (l23Time_any _ _).mono ?_; rintro e w_ ⟨rfl, rfl⟩) | (go_at_call 32; refine (l00In_any _ _ _ _).mono ?_; rintro e w_ ⟨rfl, rfl⟩))))
                        all_goals
                          go_ret
                          exact ⟨by rw [HE.out]; rfl, by (repeat' (first | (with_reducible exact Below.refl _ _) | (with_reducible assumption) | (with_reducible refine Below.alloc ?_ ?_ _) | (with_reducible refine Below.drew ?_) | (with_reducible refine belowDrewN ?_ _) | (with_reducible refine Below.setCell ?_ ?_ _) | (with_reducible refine Below.via (by with_reducible assumption) ?_ ?_) | (with_reducible refine Below.viaD (by with_reducible assumption) ?_ ?_) | (with_reducible exact Below.size (by with_reducible assumption)) | go_size | (with_reducible refine Nat.le_trans ?_ (Below.size (by with_reducible assumption))) | (with_reducible refine Nat.le_trans ?_ (sizeAlloc _ _)) | (with_reducible refine Nat.le_trans ?_ (sizeSet _ _ _)) | (with_reducible refine Nat.le_trans ?_ (sizeDrew _))))⟩
end Go.Proofs.YtbepfonpfnllkaaDoor
