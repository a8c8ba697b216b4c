/- Captures: valid seeds after sowing, by both functions. Conditions: lengths below 2^20. -/
import Derived.Test.YtdkljnlkfkjdpaaCap1
namespace Go.Proofs.Ytdkljnlkfkjdpaa
set_option linter.unusedSimpArgs false
set_option linter.unusedVariables false
open Go.RowKit

theorem okSown_1 {r : Ru} {d : SownD} {pl : Int} (h : inB pl 0 1 = false) : okSown r d pl = false := by rw [okSown, h]; rfl
theorem okSown_2 {r : Ru} {d : SownD} {pl : Int} (h : okPos r ⟨d.pits, d.stores, pl⟩ = false) : okSown r d pl = false := by rw [okSown, h, Bool.and_false]; rfl
theorem okSown_3 {r : Ru} {d : SownD} {pl : Int} (h : inB d.laps 1 100 = false) : okSown r d pl = false := by rw [okSown, h, Bool.and_false]; rfl
theorem okSown_4 {r : Ru} {d : SownD} {pl : Int} (h1 : inB pl 0 1 = true) (h2 : okPos r ⟨d.pits, d.stores, pl⟩ = true) (h3 : inB d.laps 1 100 = true) : okSown r d pl = okLast r d pl := by rw [okSown, h1, h2, h3]; rfl
theorem inB01 {pl : Int} (h : inB pl 0 1 = true) : pl = 0 ∨ pl = 1 := by
  have := inB_of h
  omega
set_option maxRecDepth 100000 in
set_option maxHeartbeats 4000000 in
theorem ValidSown_any (r : Ru) (A1 A2 : Option Addr) (n1 c1 n2 c2 : Nat) (d : SownD) (pl : Int) (q : Bool) (w : World) (s1 : Sl w w.heap.size 1 A1 n1 (d.pits.map (Value.int .i64))) (s2 : Sl w w.heap.size 1 A2 n2 (d.stores.map (Value.int .i64))) (hsz : szSown d ≤ 1048576) (hq : okSown r d pl = q) :
    Calls Try.prog 32 #[.agg #[.int .i64 r.p, .int .i64 r.s, .bool r.st, .bool r.sk, .bool r.re, .bool r.fe, .bool r.ag, .int .i64 r.ca, .int .i64 r.sl], .agg #[.slice A1 n1 c1, .slice A2 n2 c2, .int .i64 d.last, .int .i64 d.laps], .int .i64 pl] w fun e w' => e = .returned (.bool q) ∧ Below w.heap.size w w' := by
  have hl1 : n1 ≤ 1048576 := by have := s1.ints; unfold szSown at hsz; omega
  have hl2 : n2 ≤ 1048576 := by have := s2.ints; unfold szSown at hsz; omega
  have hsz' : szPosition ⟨d.pits, d.stores, pl⟩ ≤ 1048576 := hsz
  have HX := Lib.hid (show XPosition w [.slice A1 n1 c1, .slice A2 n2 c2, .int .i64 pl] ⟨d.pits, d.stores, pl⟩ from ⟨_, _, _, _, _, _, rfl, s1, by omega, s2, by omega⟩)
  have HQ := Lib.hid hq
  have S1 := Lib.hid s1
  have S2 := Lib.hid s2
  clear hq s1 s2
  cases g1 : inB pl 0 1
  case false =>
    obtain rfl : q = false := by rw [← HQ.out]; exact okSown_1 g1
    go_enter Try.func32, Try.ntmps32
    go_wp2_with (go_at_call 48; refine (isPlayer_any _ _).mono ?_; rintro e w_ ⟨rfl, rfl⟩)
    go_ret
    exact ⟨rfl, by (repeat' (first | (with_reducible exact Below.refl _ _) | (with_reducible assumption) | (with_reducible refine Below.alloc ?_ ?_ _) | (with_reducible refine Below.drew ?_) | (with_reducible refine belowDrewN ?_ _) | (with_reducible refine Below.setCell ?_ ?_ _) | (with_reducible refine Below.via (by with_reducible assumption) ?_ ?_) | (with_reducible refine Below.viaD (by with_reducible assumption) ?_ ?_) | (with_reducible exact Below.size (by with_reducible assumption)) | go_size | (with_reducible refine Nat.le_trans ?_ (Below.size (by with_reducible assumption))) | (with_reducible refine Nat.le_trans ?_ (sizeAlloc _ _)) | (with_reducible refine Nat.le_trans ?_ (sizeSet _ _ _)) | (with_reducible refine Nat.le_trans ?_ (sizeDrew _))))⟩
  case true =>
    cases g2 : okPos r ⟨d.pits, d.stores, pl⟩
    case false =>
      obtain rfl : q = false := by rw [← HQ.out]; exact okSown_2 g2
      go_enter Try.func32, Try.ntmps32
      go_wp2_with (go_at_call 48; refine (isPlayer_any _ _).mono ?_; rintro e w_ ⟨rfl, rfl⟩)
      with_reducible refine Calls.mono (ValidPosition_any r [.slice A1 n1 c1, .slice A2 n2 c2, .int .i64 pl] ⟨d.pits, d.stores, pl⟩ _ ?_ hsz') ?_
      · exact HX.out.later (by (repeat' (first | (with_reducible exact Below.refl _ _) | (with_reducible assumption) | (with_reducible refine Below.alloc ?_ ?_ _) | (with_reducible refine Below.drew ?_) | (with_reducible refine belowDrewN ?_ _) | (with_reducible refine Below.setCell ?_ ?_ _) | (with_reducible refine Below.via (by with_reducible assumption) ?_ ?_) | (with_reducible refine Below.viaD (by with_reducible assumption) ?_ ?_) | (with_reducible exact Below.size (by with_reducible assumption)) | go_size | (with_reducible refine Nat.le_trans ?_ (Below.size (by with_reducible assumption))) | (with_reducible refine Nat.le_trans ?_ (sizeAlloc _ _)) | (with_reducible refine Nat.le_trans ?_ (sizeSet _ _ _)) | (with_reducible refine Nat.le_trans ?_ (sizeDrew _)))))
      rw [g2]
      rintro e w1 ⟨rfl, hb1⟩
      obtain ⟨hc1, hf1, hl1', hz1⟩ := bfacts hb1
      go_wp2_with fail
      go_ret
      exact ⟨rfl, by (repeat' (first | (with_reducible exact Below.refl _ _) | (with_reducible assumption) | (with_reducible refine Below.alloc ?_ ?_ _) | (with_reducible refine Below.drew ?_) | (with_reducible refine belowDrewN ?_ _) | (with_reducible refine Below.setCell ?_ ?_ _) | (with_reducible refine Below.via (by with_reducible assumption) ?_ ?_) | (with_reducible refine Below.viaD (by with_reducible assumption) ?_ ?_) | (with_reducible exact Below.size (by with_reducible assumption)) | go_size | (with_reducible refine Nat.le_trans ?_ (Below.size (by with_reducible assumption))) | (with_reducible refine Nat.le_trans ?_ (sizeAlloc _ _)) | (with_reducible refine Nat.le_trans ?_ (sizeSet _ _ _)) | (with_reducible refine Nat.le_trans ?_ (sizeDrew _))))⟩
    case true =>
      obtain ⟨P, p, hP, h2, h8, hn, hn', hd, hpl, ho, ho', _⟩ := okPos_of g2
      simp only at hd hn hn'
      subst hd
      have G2 := Lib.hid g2
      have HP := Lib.hid hP
      have hn1 : n1 = 2 * P := by have := S1.out.ints; omega
      have hn2 : n2 = 2 := by have := S2.out.ints; omega
      clear g2 hP hn hn'
      subst hn1 hn2
      cases g3 : inB d.laps 1 100
      case false =>
        obtain rfl : q = false := by rw [← HQ.out]; exact okSown_3 g3
        go_enter Try.func32, Try.ntmps32
        go_wp2_with (go_at_call 48; refine (isPlayer_any _ _).mono ?_; rintro e w_ ⟨rfl, rfl⟩)
        with_reducible refine Calls.mono (ValidPosition_any r [.slice A1 (2 * P) c1, .slice A2 2 c2, .int .i64 p] ⟨d.pits, d.stores, p⟩ _ ?_ hsz') ?_
        · exact HX.out.later (by (repeat' (first | (with_reducible exact Below.refl _ _) | (with_reducible assumption) | (with_reducible refine Below.alloc ?_ ?_ _) | (with_reducible refine Below.drew ?_) | (with_reducible refine belowDrewN ?_ _) | (with_reducible refine Below.setCell ?_ ?_ _) | (with_reducible refine Below.via (by with_reducible assumption) ?_ ?_) | (with_reducible refine Below.viaD (by with_reducible assumption) ?_ ?_) | (with_reducible exact Below.size (by with_reducible assumption)) | go_size | (with_reducible refine Nat.le_trans ?_ (Below.size (by with_reducible assumption))) | (with_reducible refine Nat.le_trans ?_ (sizeAlloc _ _)) | (with_reducible refine Nat.le_trans ?_ (sizeSet _ _ _)) | (with_reducible refine Nat.le_trans ?_ (sizeDrew _)))))
        rw [G2.out]
        rintro e w1 ⟨rfl, hb1⟩
        obtain ⟨hc1, hf1, hl1', hz1⟩ := bfacts hb1
        go_wp2_with (go_at_call 50; refine (between_any _ _ _ _).mono ?_; rintro e w_ ⟨rfl, rfl⟩)
        go_ret
        exact ⟨rfl, by (repeat' (first | (with_reducible exact Below.refl _ _) | (with_reducible assumption) | (with_reducible refine Below.alloc ?_ ?_ _) | (with_reducible refine Below.drew ?_) | (with_reducible refine belowDrewN ?_ _) | (with_reducible refine Below.setCell ?_ ?_ _) | (with_reducible refine Below.via (by with_reducible assumption) ?_ ?_) | (with_reducible refine Below.viaD (by with_reducible assumption) ?_ ?_) | (with_reducible exact Below.size (by with_reducible assumption)) | go_size | (with_reducible refine Nat.le_trans ?_ (Below.size (by with_reducible assumption))) | (with_reducible refine Nat.le_trans ?_ (sizeAlloc _ _)) | (with_reducible refine Nat.le_trans ?_ (sizeSet _ _ _)) | (with_reducible refine Nat.le_trans ?_ (sizeDrew _))))⟩
      case true =>
        have HQ2 := Lib.hid ((okSown_4 g1 G2.out g3).symm.trans HQ.out)
        by_cases g4 : d.last = -1
        case pos =>
          have g4b : (d.last == -1) = true := beq_iff_eq.2 g4
          have G4 := Lib.hid g4
          clear g4
          rcases Bool.eq_false_or_eq_true r.st with g5 | g5
          all_goals have G5 := Lib.hid g5
          all_goals clear g5
          all_goals
            go_enter Try.func32, Try.ntmps32
            go_wp2_with (go_at_call 48; refine (isPlayer_any _ _).mono ?_; rintro e w_ ⟨rfl, rfl⟩)
            with_reducible refine Calls.mono (ValidPosition_any r [.slice A1 (2 * P) c1, .slice A2 2 c2, .int .i64 p] ⟨d.pits, d.stores, p⟩ _ ?_ hsz') ?_
            · exact HX.out.later (by (repeat' (first | (with_reducible exact Below.refl _ _) | (with_reducible assumption) | (with_reducible refine Below.alloc ?_ ?_ _) | (with_reducible refine Below.drew ?_) | (with_reducible refine belowDrewN ?_ _) | (with_reducible refine Below.setCell ?_ ?_ _) | (with_reducible refine Below.via (by with_reducible assumption) ?_ ?_) | (with_reducible refine Below.viaD (by with_reducible assumption) ?_ ?_) | (with_reducible exact Below.size (by with_reducible assumption)) | go_size | (with_reducible refine Nat.le_trans ?_ (Below.size (by with_reducible assumption))) | (with_reducible refine Nat.le_trans ?_ (sizeAlloc _ _)) | (with_reducible refine Nat.le_trans ?_ (sizeSet _ _ _)) | (with_reducible refine Nat.le_trans ?_ (sizeDrew _)))))
            rw [G2.out]
            rintro e w1 ⟨rfl, hb1⟩
            have hB1 : Below w.heap.size w w1 := by (repeat' (first | (with_reducible exact Below.refl _ _) | (with_reducible assumption) | (with_reducible refine Below.alloc ?_ ?_ _) | (with_reducible refine Below.drew ?_) | (with_reducible refine belowDrewN ?_ _) | (with_reducible refine Below.setCell ?_ ?_ _) | (with_reducible refine Below.via (by with_reducible assumption) ?_ ?_) | (with_reducible refine Below.viaD (by with_reducible assumption) ?_ ?_) | (with_reducible exact Below.size (by with_reducible assumption)) | go_size | (with_reducible refine Nat.le_trans ?_ (Below.size (by with_reducible assumption))) | (with_reducible refine Nat.le_trans ?_ (sizeAlloc _ _)) | (with_reducible refine Nat.le_trans ?_ (sizeSet _ _ _)) | (with_reducible refine Nat.le_trans ?_ (sizeDrew _))))
            obtain ⟨b, off, z, rfl, hb, HZ, hc⟩ := (S2.out.later hB1).int (k := p) hpl
            have HQ3 : Hid ((r.st && decide (0 < z)) = q) := by
              unfold Hid
              rw [← HQ2.out, okLast, if_pos G4.out, Int.toNat_natCast, HZ.out]
            obtain ⟨hc1, hf1, hl1', hz1⟩ := bfacts hb1
            have g5 := G5.out
            go_wp2_with (go_at_call 50; refine (between_any _ _ _ _).mono ?_; rintro e w_ ⟨rfl, rfl⟩)
            all_goals
              have h9 := HQ3.out
              go_ret
              subst h9
              exact ⟨by simp [*], by (repeat' (first | (with_reducible exact Below.refl _ _) | (with_reducible assumption) | (with_reducible refine Below.alloc ?_ ?_ _) | (with_reducible refine Below.drew ?_) | (with_reducible refine belowDrewN ?_ _) | (with_reducible refine Below.setCell ?_ ?_ _) | (with_reducible refine Below.via (by with_reducible assumption) ?_ ?_) | (with_reducible refine Below.viaD (by with_reducible assumption) ?_ ?_) | (with_reducible exact Below.size (by with_reducible assumption)) | go_size | (with_reducible refine Nat.le_trans ?_ (Below.size (by with_reducible assumption))) | (with_reducible refine Nat.le_trans ?_ (sizeAlloc _ _)) | (with_reducible refine Nat.le_trans ?_ (sizeSet _ _ _)) | (with_reducible refine Nat.le_trans ?_ (sizeDrew _))))⟩
        case neg =>
          have g4b : (d.last == -1) = false := beq_eq_false_iff_ne.2 g4
          cases g5 : inB d.last 0 (2 * (P : Int) - 1)
          case false =>
            obtain rfl : q = false := by rw [← HQ2.out, okLast, if_neg g4, HP.out, g5]; rfl
            go_enter Try.func32, Try.ntmps32
            go_wp2_with (go_at_call 48; refine (isPlayer_any _ _).mono ?_; rintro e w_ ⟨rfl, rfl⟩)
            with_reducible refine Calls.mono (ValidPosition_any r [.slice A1 (2 * P) c1, .slice A2 2 c2, .int .i64 p] ⟨d.pits, d.stores, p⟩ _ ?_ hsz') ?_
            · exact HX.out.later (by (repeat' (first | (with_reducible exact Below.refl _ _) | (with_reducible assumption) | (with_reducible refine Below.alloc ?_ ?_ _) | (with_reducible refine Below.drew ?_) | (with_reducible refine belowDrewN ?_ _) | (with_reducible refine Below.setCell ?_ ?_ _) | (with_reducible refine Below.via (by with_reducible assumption) ?_ ?_) | (with_reducible refine Below.viaD (by with_reducible assumption) ?_ ?_) | (with_reducible exact Below.size (by with_reducible assumption)) | go_size | (with_reducible refine Nat.le_trans ?_ (Below.size (by with_reducible assumption))) | (with_reducible refine Nat.le_trans ?_ (sizeAlloc _ _)) | (with_reducible refine Nat.le_trans ?_ (sizeSet _ _ _)) | (with_reducible refine Nat.le_trans ?_ (sizeDrew _)))))
            rw [G2.out]
            rintro e w1 ⟨rfl, hb1⟩
            obtain ⟨hc1, hf1, hl1', hz1⟩ := bfacts hb1
            go_wp2_with (first | (go_at_call 50; refine (between_any _ _ _ _).mono ?_; rintro e w_ ⟨rfl, rfl⟩) | (go_at_call 51; refine (isPit_lit r P d.last false _ HP.out h2 h8 g5).mono ?_; rintro e w_ ⟨rfl, rfl⟩))
            go_ret
            exact ⟨by first | rfl | simp [*], by (repeat' (first | (with_reducible exact Below.refl _ _) | (with_reducible assumption) | (with_reducible refine Below.alloc ?_ ?_ _) | (with_reducible refine Below.drew ?_) | (with_reducible refine belowDrewN ?_ _) | (with_reducible refine Below.setCell ?_ ?_ _) | (with_reducible refine Below.via (by with_reducible assumption) ?_ ?_) | (with_reducible refine Below.viaD (by with_reducible assumption) ?_ ?_) | (with_reducible exact Below.size (by with_reducible assumption)) | go_size | (with_reducible refine Nat.le_trans ?_ (Below.size (by with_reducible assumption))) | (with_reducible refine Nat.le_trans ?_ (sizeAlloc _ _)) | (with_reducible refine Nat.le_trans ?_ (sizeSet _ _ _)) | (with_reducible refine Nat.le_trans ?_ (sizeDrew _))))⟩
          case true =>
            obtain ⟨k, hk⟩ := Int.eq_ofNat_of_zero_le (inB_of g5).1
            have hk2 : k < 2 * P := by have := (inB_of g5).2; omega
            have HQ3 : Hid (decide (0 < d.pits.getD k 0) = q) := by
              unfold Hid
              rw [← HQ2.out, okLast, if_neg g4, HP.out, g5, hk, Int.toNat_natCast]
              rfl
            obtain ⟨pits, stores, last, laps⟩ := d
            simp only at hk
            subst hk
            go_enter Try.func32, Try.ntmps32
            go_wp2_with (go_at_call 48; refine (isPlayer_any _ _).mono ?_; rintro e w_ ⟨rfl, rfl⟩)
            with_reducible refine Calls.mono (ValidPosition_any r [.slice A1 (2 * P) c1, .slice A2 2 c2, .int .i64 p] ⟨pits, stores, p⟩ _ ?_ hsz') ?_
            · exact HX.out.later (by (repeat' (first | (with_reducible exact Below.refl _ _) | (with_reducible assumption) | (with_reducible refine Below.alloc ?_ ?_ _) | (with_reducible refine Below.drew ?_) | (with_reducible refine belowDrewN ?_ _) | (with_reducible refine Below.setCell ?_ ?_ _) | (with_reducible refine Below.via (by with_reducible assumption) ?_ ?_) | (with_reducible refine Below.viaD (by with_reducible assumption) ?_ ?_) | (with_reducible exact Below.size (by with_reducible assumption)) | go_size | (with_reducible refine Nat.le_trans ?_ (Below.size (by with_reducible assumption))) | (with_reducible refine Nat.le_trans ?_ (sizeAlloc _ _)) | (with_reducible refine Nat.le_trans ?_ (sizeSet _ _ _)) | (with_reducible refine Nat.le_trans ?_ (sizeDrew _)))))
            rw [G2.out]
            rintro e w1 ⟨rfl, hb1⟩
            have hB1 : Below w.heap.size w w1 := by (repeat' (first | (with_reducible exact Below.refl _ _) | (with_reducible assumption) | (with_reducible refine Below.alloc ?_ ?_ _) | (with_reducible refine Below.drew ?_) | (with_reducible refine belowDrewN ?_ _) | (with_reducible refine Below.setCell ?_ ?_ _) | (with_reducible refine Below.via (by with_reducible assumption) ?_ ?_) | (with_reducible refine Below.viaD (by with_reducible assumption) ?_ ?_) | (with_reducible exact Below.size (by with_reducible assumption)) | go_size | (with_reducible refine Nat.le_trans ?_ (Below.size (by with_reducible assumption))) | (with_reducible refine Nat.le_trans ?_ (sizeAlloc _ _)) | (with_reducible refine Nat.le_trans ?_ (sizeSet _ _ _)) | (with_reducible refine Nat.le_trans ?_ (sizeDrew _))))
            obtain ⟨b, off, z, rfl, hb, HZ, hc⟩ := (S1.out.later hB1).int (k := k) hk2
            (try simp only at HZ)
            (try simp only at HQ3)
            rw [HZ.out] at HQ3
            obtain ⟨hc1, hf1, hl1', hz1⟩ := bfacts hb1
            have g4c : ((k : Int) == -1) = false := g4b
            go_wp2_with (first | (go_at_call 50; refine (between_any _ _ _ _).mono ?_; rintro e w_ ⟨rfl, rfl⟩) | (go_at_call 51; refine (isPit_lit r P k true _ HP.out h2 h8 g5).mono ?_; rintro e w_ ⟨rfl, rfl⟩))
            all_goals
              have h9 := HQ3.out
              go_ret
              subst h9
              exact ⟨by simp [*], by (repeat' (first | (with_reducible exact Below.refl _ _) | (with_reducible assumption) | (with_reducible refine Below.alloc ?_ ?_ _) | (with_reducible refine Below.drew ?_) | (with_reducible refine belowDrewN ?_ _) | (with_reducible refine Below.setCell ?_ ?_ _) | (with_reducible refine Below.via (by with_reducible assumption) ?_ ?_) | (with_reducible refine Below.viaD (by with_reducible assumption) ?_ ?_) | (with_reducible exact Below.size (by with_reducible assumption)) | go_size | (with_reducible refine Nat.le_trans ?_ (Below.size (by with_reducible assumption))) | (with_reducible refine Nat.le_trans ?_ (sizeAlloc _ _)) | (with_reducible refine Nat.le_trans ?_ (sizeSet _ _ _)) | (with_reducible refine Nat.le_trans ?_ (sizeDrew _))))⟩
end Go.Proofs.Ytdkljnlkfkjdpaa
