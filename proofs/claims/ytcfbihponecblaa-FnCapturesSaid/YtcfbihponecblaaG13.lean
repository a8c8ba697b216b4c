/- Captures: what is taken, by the program. Conditions: lengths below 2^20. -/
import Derived.Test.YtcfbihponecblaaG12
import Derived.StillTailTactics
import Derived.Test.YtcfbihponecblaaG10
/- Captures: valid seeds after sowing, by both functions. Conditions: lengths below 2^20. -/
namespace Go.Proofs.Ytcfbihponecblaa
set_option linter.unusedSimpArgs false
set_option linter.unusedVariables false
open Go.RowKit

theorem okSown_1 {r : Ru} {d : SownD} {pl : Int} (h : inB pl 0 1 = false) : okSown r d pl = false := by rw [okSown, h]; rfl
theorem okSown_2 {r : Ru} {d : SownD} {pl : Int} (h : okPos r ⟨d.pits, d.stores, pl⟩ = false) : okSown r d pl = false := by rw [okSown, h, Bool.and_false]; rfl
theorem okSown_3 {r : Ru} {d : SownD} {pl : Int} (h : inB d.laps 1 100 = false) : okSown r d pl = false := by rw [okSown, h, Bool.and_false]; rfl
theorem okSown_4 {r : Ru} {d : SownD} {pl : Int} (h1 : inB pl 0 1 = true) (h2 : okPos r ⟨d.pits, d.stores, pl⟩ = true) (h3 : inB d.laps 1 100 = true) : okSown r d pl = okLast r d pl := by rw [okSown, h1, h2, h3]; rfl
theorem inB01 {pl : Int} (h : inB pl 0 1 = true) : pl = 0 ∨ pl = 1 := by
  have := inB_of h
  omega
set_option maxRecDepth 100000 in
set_option maxHeartbeats 4000000 in
theorem ValidSown_any (r : Ru) (A1 A2 : Option Addr) (n1 c1 n2 c2 : Nat) (d : SownD) (pl : Int) (q : Bool) (w : World) (s1 : Sl w w.heap.size 1 A1 n1 (d.pits.map (Value.int .i64))) (s2 : Sl w w.heap.size 1 A2 n2 (d.stores.map (Value.int .i64))) (hsz : szSown d ≤ 1048576) (hq : okSown r d pl = q) :
    Calls Try.prog 15 #[.agg #[.int .i64 r.p, .int .i64 r.s, .bool r.st, .bool r.sk, .bool r.re, .bool r.fe, .bool r.ag, .int .i64 r.ca, .int .i64 r.sl], .agg #[.slice A1 n1 c1, .slice A2 n2 c2, .int .i64 d.last, .int .i64 d.laps], .int .i64 pl] w fun e w' => e = .returned (.bool q) ∧ Below w.heap.size w w' := by
  have hl1 : n1 ≤ 1048576 := by have := s1.ints; unfold szSown at hsz; omega
  have hl2 : n2 ≤ 1048576 := by have := s2.ints; unfold szSown at hsz; omega
  have hsz' : szPosition ⟨d.pits, d.stores, pl⟩ ≤ 1048576 := hsz
  have HX := Lib.hid (show XPosition w [.slice A1 n1 c1, .slice A2 n2 c2, .int .i64 pl] ⟨d.pits, d.stores, pl⟩ from ⟨_, _, _, _, _, _, rfl, s1, by omega, s2, by omega⟩)
  have HQ := Lib.hid hq
  have S1 := Lib.hid s1
  have S2 := Lib.hid s2
  clear hq s1 s2
  cases g1 : inB pl 0 1
  case false =>
    obtain rfl : q = false := by rw [← HQ.out]; exact okSown_1 g1
    go_enter Try.func15, Try.ntmps15
    go_wp2_with (go_at_call 28; refine (isPlayer_any _ _).mono ?_; rintro e w_ ⟨rfl, rfl⟩)
    go_ret
    exact ⟨rfl, by (repeat' (first | (with_reducible exact Below.refl _ _) | (with_reducible assumption) | (with_reducible refine Below.alloc ?_ ?_ _) | (with_reducible refine Below.drew ?_) | (with_reducible refine belowDrewN ?_ _) | (with_reducible refine Below.setCell ?_ ?_ _) | (with_reducible refine Below.via (by with_reducible assumption) ?_ ?_) | (with_reducible refine Below.viaD (by with_reducible assumption) ?_ ?_) | (with_reducible exact Below.size (by with_reducible assumption)) | go_size | (with_reducible refine Nat.le_trans ?_ (Below.size (by with_reducible assumption))) | (with_reducible refine Nat.le_trans ?_ (sizeAlloc _ _)) | (with_reducible refine Nat.le_trans ?_ (sizeSet _ _ _)) | (with_reducible refine Nat.le_trans ?_ (sizeDrew _))))⟩
  case true =>
    cases g2 : okPos r ⟨d.pits, d.stores, pl⟩
    case false =>
      obtain rfl : q = false := by rw [← HQ.out]; exact okSown_2 g2
      go_enter Try.func15, Try.ntmps15
      go_wp2_with (go_at_call 28; refine (isPlayer_any _ _).mono ?_; rintro e w_ ⟨rfl, rfl⟩)
      with_reducible refine Calls.mono (ValidPosition_any r [.slice A1 n1 c1, .slice A2 n2 c2, .int .i64 pl] ⟨d.pits, d.stores, pl⟩ _ ?_ hsz') ?_
      · exact HX.out.later (by (repeat' (first | (with_reducible exact Below.refl _ _) | (with_reducible assumption) | (with_reducible refine Below.alloc ?_ ?_ _) | (with_reducible refine Below.drew ?_) | (with_reducible refine belowDrewN ?_ _) | (with_reducible refine Below.setCell ?_ ?_ _) | (with_reducible refine Below.via (by with_reducible assumption) ?_ ?_) | (with_reducible refine Below.viaD (by with_reducible assumption) ?_ ?_) | (with_reducible exact Below.size (by with_reducible assumption)) | go_size | (with_reducible refine Nat.le_trans ?_ (Below.size (by with_reducible assumption))) | (with_reducible refine Nat.le_trans ?_ (sizeAlloc _ _)) | (with_reducible refine Nat.le_trans ?_ (sizeSet _ _ _)) | (with_reducible refine Nat.le_trans ?_ (sizeDrew _)))))
      rw [g2]
      rintro e w1 ⟨rfl, hb1⟩
      obtain ⟨hc1, hf1, hl1', hz1⟩ := bfacts hb1
      go_wp2_with fail
      go_ret
      exact ⟨rfl, by (repeat' (first | (with_reducible exact Below.refl _ _) | (with_reducible assumption) | (with_reducible refine Below.alloc ?_ ?_ _) | (with_reducible refine Below.drew ?_) | (with_reducible refine belowDrewN ?_ _) | (with_reducible refine Below.setCell ?_ ?_ _) | (with_reducible refine Below.via (by with_reducible assumption) ?_ ?_) | (with_reducible refine Below.viaD (by with_reducible assumption) ?_ ?_) | (with_reducible exact Below.size (by with_reducible assumption)) | go_size | (with_reducible refine Nat.le_trans ?_ (Below.size (by with_reducible assumption))) | (with_reducible refine Nat.le_trans ?_ (sizeAlloc _ _)) | (with_reducible refine Nat.le_trans ?_ (sizeSet _ _ _)) | (with_reducible refine Nat.le_trans ?_ (sizeDrew _))))⟩
    case true =>
      obtain ⟨P, p, hP, h2, h8, hn, hn', hd, hpl, ho, ho', _⟩ := okPos_of g2
      simp only at hd hn hn'
      subst hd
      have G2 := Lib.hid g2
      have HP := Lib.hid hP
      have hn1 : n1 = 2 * P := by have := S1.out.ints; omega
      have hn2 : n2 = 2 := by have := S2.out.ints; omega
      clear g2 hP hn hn'
      subst hn1 hn2
      cases g3 : inB d.laps 1 100
      case false =>
        obtain rfl : q = false := by rw [← HQ.out]; exact okSown_3 g3
        go_enter Try.func15, Try.ntmps15
        go_wp2_with (go_at_call 28; refine (isPlayer_any _ _).mono ?_; rintro e w_ ⟨rfl, rfl⟩)
        with_reducible refine Calls.mono (ValidPosition_any r [.slice A1 (2 * P) c1, .slice A2 2 c2, .int .i64 p] ⟨d.pits, d.stores, p⟩ _ ?_ hsz') ?_
        · exact HX.out.later (by (repeat' (first | (with_reducible exact Below.refl _ _) | (with_reducible assumption) | (with_reducible refine Below.alloc ?_ ?_ _) | (with_reducible refine Below.drew ?_) | (with_reducible refine belowDrewN ?_ _) | (with_reducible refine Below.setCell ?_ ?_ _) | (with_reducible refine Below.via (by with_reducible assumption) ?_ ?_) | (with_reducible refine Below.viaD (by with_reducible assumption) ?_ ?_) | (with_reducible exact Below.size (by with_reducible assumption)) | go_size | (with_reducible refine Nat.le_trans ?_ (Below.size (by with_reducible assumption))) | (with_reducible refine Nat.le_trans ?_ (sizeAlloc _ _)) | (with_reducible refine Nat.le_trans ?_ (sizeSet _ _ _)) | (with_reducible refine Nat.le_trans ?_ (sizeDrew _)))))
        rw [G2.out]
        rintro e w1 ⟨rfl, hb1⟩
        obtain ⟨hc1, hf1, hl1', hz1⟩ := bfacts hb1
        go_wp2_with (go_at_call 30; refine (between_any _ _ _ _).mono ?_; rintro e w_ ⟨rfl, rfl⟩)
        go_ret
        exact ⟨rfl, by (repeat' (first | (with_reducible exact Below.refl _ _) | (with_reducible assumption) | (with_reducible refine Below.alloc ?_ ?_ _) | (with_reducible refine Below.drew ?_) | (with_reducible refine belowDrewN ?_ _) | (with_reducible refine Below.setCell ?_ ?_ _) | (with_reducible refine Below.via (by with_reducible assumption) ?_ ?_) | (with_reducible refine Below.viaD (by with_reducible assumption) ?_ ?_) | (with_reducible exact Below.size (by with_reducible assumption)) | go_size | (with_reducible refine Nat.le_trans ?_ (Below.size (by with_reducible assumption))) | (with_reducible refine Nat.le_trans ?_ (sizeAlloc _ _)) | (with_reducible refine Nat.le_trans ?_ (sizeSet _ _ _)) | (with_reducible refine Nat.le_trans ?_ (sizeDrew _))))⟩
      case true =>
        have HQ2 := Lib.hid ((okSown_4 g1 G2.out g3).symm.trans HQ.out)
        by_cases g4 : d.last = -1
        case pos =>
          have g4b : (d.last == -1) = true := beq_iff_eq.2 g4
          have G4 := Lib.hid g4
          clear g4
          rcases Bool.eq_false_or_eq_true r.st with g5 | g5
          all_goals have G5 := Lib.hid g5
          all_goals clear g5
          all_goals
            go_enter Try.func15, Try.ntmps15
            go_wp2_with (go_at_call 28; refine (isPlayer_any _ _).mono ?_; rintro e w_ ⟨rfl, rfl⟩)
            with_reducible refine Calls.mono (ValidPosition_any r [.slice A1 (2 * P) c1, .slice A2 2 c2, .int .i64 p] ⟨d.pits, d.stores, p⟩ _ ?_ hsz') ?_
            · exact HX.out.later (by (repeat' (first | (with_reducible exact Below.refl _ _) | (with_reducible assumption) | (with_reducible refine Below.alloc ?_ ?_ _) | (with_reducible refine Below.drew ?_) | (with_reducible refine belowDrewN ?_ _) | (with_reducible refine Below.setCell ?_ ?_ _) | (with_reducible refine Below.via (by with_reducible assumption) ?_ ?_) | (with_reducible refine Below.viaD (by with_reducible assumption) ?_ ?_) | (with_reducible exact Below.size (by with_reducible assumption)) | go_size | (with_reducible refine Nat.le_trans ?_ (Below.size (by with_reducible assumption))) | (with_reducible refine Nat.le_trans ?_ (sizeAlloc _ _)) | (with_reducible refine Nat.le_trans ?_ (sizeSet _ _ _)) | (with_reducible refine Nat.le_trans ?_ (sizeDrew _)))))
            rw [G2.out]
            rintro e w1 ⟨rfl, hb1⟩
            have hB1 : Below w.heap.size w w1 := by (repeat' (first | (with_reducible exact Below.refl _ _) | (with_reducible assumption) | (with_reducible refine Below.alloc ?_ ?_ _) | (with_reducible refine Below.drew ?_) | (with_reducible refine belowDrewN ?_ _) | (with_reducible refine Below.setCell ?_ ?_ _) | (with_reducible refine Below.via (by with_reducible assumption) ?_ ?_) | (with_reducible refine Below.viaD (by with_reducible assumption) ?_ ?_) | (with_reducible exact Below.size (by with_reducible assumption)) | go_size | (with_reducible refine Nat.le_trans ?_ (Below.size (by with_reducible assumption))) | (with_reducible refine Nat.le_trans ?_ (sizeAlloc _ _)) | (with_reducible refine Nat.le_trans ?_ (sizeSet _ _ _)) | (with_reducible refine Nat.le_trans ?_ (sizeDrew _))))
            obtain ⟨b, off, z, rfl, hb, HZ, hc⟩ := (S2.out.later hB1).int (k := p) hpl
            have HQ3 : Hid ((r.st && decide (0 < z)) = q) := by
              unfold Hid
              rw [← HQ2.out, okLast, if_pos G4.out, Int.toNat_natCast, HZ.out]
            obtain ⟨hc1, hf1, hl1', hz1⟩ := bfacts hb1
            have g5 := G5.out
            go_wp2_with (go_at_call 30; refine (between_any _ _ _ _).mono ?_; rintro e w_ ⟨rfl, rfl⟩)
            all_goals
              have h9 := HQ3.out
              go_ret
              subst h9
              exact ⟨by simp [*], by (repeat' (first | (with_reducible exact Below.refl _ _) | (with_reducible assumption) | (with_reducible refine Below.alloc ?_ ?_ _) | (with_reducible refine Below.drew ?_) | (with_reducible refine belowDrewN ?_ _) | (with_reducible refine Below.setCell ?_ ?_ _) | (with_reducible refine Below.via (by with_reducible assumption) ?_ ?_) | (with_reducible refine Below.viaD (by with_reducible assumption) ?_ ?_) | (with_reducible exact Below.size (by with_reducible assumption)) | go_size | (with_reducible refine Nat.le_trans ?_ (Below.size (by with_reducible assumption))) | (with_reducible refine Nat.le_trans ?_ (sizeAlloc _ _)) | (with_reducible refine Nat.le_trans ?_ (sizeSet _ _ _)) | (with_reducible refine Nat.le_trans ?_ (sizeDrew _))))⟩
        case neg =>
          have g4b : (d.last == -1) = false := beq_eq_false_iff_ne.2 g4
          cases g5 : inB d.last 0 (2 * (P : Int) - 1)
          case false =>
            obtain rfl : q = false := by rw [← HQ2.out, okLast, if_neg g4, HP.out, g5]; rfl
            go_enter Try.func15, Try.ntmps15
            go_wp2_with (go_at_call 28; refine (isPlayer_any _ _).mono ?_; rintro e w_ ⟨rfl, rfl⟩)
            with_reducible refine Calls.mono (ValidPosition_any r [.slice A1 (2 * P) c1, .slice A2 2 c2, .int .i64 p] ⟨d.pits, d.stores, p⟩ _ ?_ hsz') ?_
            · exact HX.out.later (by (repeat' (first | (with_reducible exact Below.refl _ _) | (with_reducible assumption) | (with_reducible refine Below.alloc ?_ ?_ _) | (with_reducible refine Below.drew ?_) | (with_reducible refine belowDrewN ?_ _) | (with_reducible refine Below.setCell ?_ ?_ _) | (with_reducible refine Below.via (by with_reducible assumption) ?_ ?_) | (with_reducible refine Below.viaD (by with_reducible assumption) ?_ ?_) | (with_reducible exact Below.size (by with_reducible assumption)) | go_size | (with_reducible refine Nat.le_trans ?_ (Below.size (by with_reducible assumption))) | (with_reducible refine Nat.le_trans ?_ (sizeAlloc _ _)) | (with_reducible refine Nat.le_trans ?_ (sizeSet _ _ _)) | (with_reducible refine Nat.le_trans ?_ (sizeDrew _)))))
            rw [G2.out]
            rintro e w1 ⟨rfl, hb1⟩
            obtain ⟨hc1, hf1, hl1', hz1⟩ := bfacts hb1
            go_wp2_with (first | (go_at_call 30; refine (between_any _ _ _ _).mono ?_; rintro e w_ ⟨rfl, rfl⟩) | (go_at_call 31; refine (isPit_lit r P d.last false _ HP.out h2 h8 g5).mono ?_; rintro e w_ ⟨rfl, rfl⟩))
            go_ret
            exact ⟨by first | rfl | simp [*], by (repeat' (first | (with_reducible exact Below.refl _ _) | (with_reducible assumption) | (with_reducible refine Below.alloc ?_ ?_ _) | (with_reducible refine Below.drew ?_) | (with_reducible refine belowDrewN ?_ _) | (with_reducible refine Below.setCell ?_ ?_ _) | (with_reducible refine Below.via (by with_reducible assumption) ?_ ?_) | (with_reducible refine Below.viaD (by with_reducible assumption) ?_ ?_) | (with_reducible exact Below.size (by with_reducible assumption)) | go_size | (with_reducible refine Nat.le_trans ?_ (Below.size (by with_reducible assumption))) | (with_reducible refine Nat.le_trans ?_ (sizeAlloc _ _)) | (with_reducible refine Nat.le_trans ?_ (sizeSet _ _ _)) | (with_reducible refine Nat.le_trans ?_ (sizeDrew _))))⟩
          case true =>
            obtain ⟨k, hk⟩ := Int.eq_ofNat_of_zero_le (inB_of g5).1
            have hk2 : k < 2 * P := by have := (inB_of g5).2; omega
            have HQ3 : Hid (decide (0 < d.pits.getD k 0) = q) := by
              unfold Hid
              rw [← HQ2.out, okLast, if_neg g4, HP.out, g5, hk, Int.toNat_natCast]
              rfl
            obtain ⟨pits, stores, last, laps⟩ := d
            simp only at hk
            subst hk
            go_enter Try.func15, Try.ntmps15
            go_wp2_with (go_at_call 28; refine (isPlayer_any _ _).mono ?_; rintro e w_ ⟨rfl, rfl⟩)
            with_reducible refine Calls.mono (ValidPosition_any r [.slice A1 (2 * P) c1, .slice A2 2 c2, .int .i64 p] ⟨pits, stores, p⟩ _ ?_ hsz') ?_
            · exact HX.out.later (by (repeat' (first | (with_reducible exact Below.refl _ _) | (with_reducible assumption) | (with_reducible refine Below.alloc ?_ ?_ _) | (with_reducible refine Below.drew ?_) | (with_reducible refine belowDrewN ?_ _) | (with_reducible refine Below.setCell ?_ ?_ _) | (with_reducible refine Below.via (by with_reducible assumption) ?_ ?_) | (with_reducible refine Below.viaD (by with_reducible assumption) ?_ ?_) | (with_reducible exact Below.size (by with_reducible assumption)) | go_size | (with_reducible refine Nat.le_trans ?_ (Below.size (by with_reducible assumption))) | (with_reducible refine Nat.le_trans ?_ (sizeAlloc _ _)) | (with_reducible refine Nat.le_trans ?_ (sizeSet _ _ _)) | (with_reducible refine Nat.le_trans ?_ (sizeDrew _)))))
            rw [G2.out]
            rintro e w1 ⟨rfl, hb1⟩
            have hB1 : Below w.heap.size w w1 := by (repeat' (first | (with_reducible exact Below.refl _ _) | (with_reducible assumption) | (with_reducible refine Below.alloc ?_ ?_ _) | (with_reducible refine Below.drew ?_) | (with_reducible refine belowDrewN ?_ _) | (with_reducible refine Below.setCell ?_ ?_ _) | (with_reducible refine Below.via (by with_reducible assumption) ?_ ?_) | (with_reducible refine Below.viaD (by with_reducible assumption) ?_ ?_) | (with_reducible exact Below.size (by with_reducible assumption)) | go_size | (with_reducible refine Nat.le_trans ?_ (Below.size (by with_reducible assumption))) | (with_reducible refine Nat.le_trans ?_ (sizeAlloc _ _)) | (with_reducible refine Nat.le_trans ?_ (sizeSet _ _ _)) | (with_reducible refine Nat.le_trans ?_ (sizeDrew _))))
            obtain ⟨b, off, z, rfl, hb, HZ, hc⟩ := (S1.out.later hB1).int (k := k) hk2
            (try simp only at HZ)
            (try simp only at HQ3)
            rw [HZ.out] at HQ3
            obtain ⟨hc1, hf1, hl1', hz1⟩ := bfacts hb1
            have g4c : ((k : Int) == -1) = false := g4b
            go_wp2_with (first | (go_at_call 30; refine (between_any _ _ _ _).mono ?_; rintro e w_ ⟨rfl, rfl⟩) | (go_at_call 31; refine (isPit_lit r P k true _ HP.out h2 h8 g5).mono ?_; rintro e w_ ⟨rfl, rfl⟩))
            all_goals
              have h9 := HQ3.out
              go_ret
              subst h9
              exact ⟨by simp [*], by (repeat' (first | (with_reducible exact Below.refl _ _) | (with_reducible assumption) | (with_reducible refine Below.alloc ?_ ?_ _) | (with_reducible refine Below.drew ?_) | (with_reducible refine belowDrewN ?_ _) | (with_reducible refine Below.setCell ?_ ?_ _) | (with_reducible refine Below.via (by with_reducible assumption) ?_ ?_) | (with_reducible refine Below.viaD (by with_reducible assumption) ?_ ?_) | (with_reducible exact Below.size (by with_reducible assumption)) | go_size | (with_reducible refine Nat.le_trans ?_ (Below.size (by with_reducible assumption))) | (with_reducible refine Nat.le_trans ?_ (sizeAlloc _ _)) | (with_reducible refine Nat.le_trans ?_ (sizeSet _ _ _)) | (with_reducible refine Nat.le_trans ?_ (sizeDrew _))))⟩
end Go.Proofs.Ytcfbihponecblaa
/- Captures: valid seeds after sowing, by the reference. Conditions: lengths below 2^20. -/
namespace Go.Proofs.Ytcfbihponecblaa
set_option linter.unusedSimpArgs false
set_option linter.unusedVariables false
open Go.RowKit

/-- Seeds after sowing that lie at a place. -/
structure SownAt (w : World) (b o : Nat) (A1 : Option Addr) (n1 c1 : Nat) (A2 : Option Addr) (n2 c2 : Nat) (d : SownD) : Prop where
  c0 : w.cell? ⟨b, o, none⟩ = some (.slice A1 n1 c1)
  c1 : w.cell? ⟨b, o + 1, none⟩ = some (.slice A2 n2 c2)
  c2 : w.cell? ⟨b, o + 2, none⟩ = some (.int .i64 d.last)
  c3 : w.cell? ⟨b, o + 3, none⟩ = some (.int .i64 d.laps)
  s1 : Sl w w.heap.size 1 A1 n1 (d.pits.map (Value.int .i64))
  s2 : Sl w w.heap.size 1 A2 n2 (d.stores.map (Value.int .i64))
theorem SownAt.later {w w' : World} {b o : Nat} {A1 A2 : Option Addr} {n1 c1 n2 c2 : Nat} {d : SownD} (h : SownAt w b o A1 n1 c1 A2 n2 c2 d) (hb : Below w.heap.size w w') : SownAt w' b o A1 n1 c1 A2 n2 c2 d := by
  have hl := cell_lt h.c0
  exact ⟨(hb.cell (p := ⟨b, o, none⟩) hl).trans h.c0, (hb.cell (p := ⟨b, o + 1, none⟩) hl).trans h.c1, (hb.cell (p := ⟨b, o + 2, none⟩) hl).trans h.c2, (hb.cell (p := ⟨b, o + 3, none⟩) hl).trans h.c3, h.s1.later hb, h.s2.later hb⟩
theorem SownAt.drewN {w : World} {b o : Nat} {A1 A2 : Option Addr} {n1 c1 n2 c2 : Nat} {d : SownD} (h : SownAt w b o A1 n1 c1 A2 n2 c2 d) (k : Nat) : SownAt (w.drewN k) b o A1 n1 c1 A2 n2 c2 d := ⟨h.c0, h.c1, h.c2, h.c3, h.s1.drewN k, h.s2.drewN k⟩
theorem okPos_pl {r : Ru} {zs zs' : List Int} {pl : Int} (h : inB pl 0 1 = true) : okPos r ⟨zs, zs', pl⟩ = okPos r ⟨zs, zs', 0⟩ := by
  unfold okPos
  rw [h]
  rfl
theorem quiet_at {P : Program} {f : FuncId} {args : Array Value} {w : World} {c k : Nat} {v : Value}
    (h : Calls P f args (w.drewN (c + k)) fun e w' => e = .returned v ∧ w.drewN (c + k) = w') : Calls P f args (w.drewN (c + k)) fun e w'' => e = .returned v ∧ ∃ n, w'' = w.drewN (c + n) :=
  h.mono fun _ _ ⟨he, hm⟩ => ⟨he, k, hm.symm⟩
set_option maxRecDepth 100000 in
set_option maxHeartbeats 1000000 in
theorem l06Ok_any (r : Ru) (b o b2 o2 : Nat) (A1 A2 : Option Addr) (n1 c1 n2 c2 : Nat) (d : SownD) (pl : Int) (q : Bool) (w : World) (hr : RuAt w b o r) (hs : SownAt w b2 o2 A1 n1 c1 A2 n2 c2 d) (hsz : szSown d ≤ 1048576) (hq : okSown r d pl = q) :
    Calls Try.prog 13 #[.pointer (some ⟨b, o, none⟩), .pointer (some ⟨b2, o2, none⟩), .int .i64 pl] w fun e w' => e = .returned (.bool q) ∧ Below w.heap.size w w' := by
  obtain ⟨p0, p1, p2, p3, s1, s2⟩ := hs
  have hl0 := cell_lt p0
  have HR := Lib.hid hr
  have HQ := Lib.hid hq
  have S1 := Lib.hid s1
  have S2 := Lib.hid s2
  have hsz' : szPosition ⟨d.pits, d.stores, 0⟩ ≤ 1048576 := hsz
  clear hq s1 s2 hr
  have HP : Hid (∀ t, PosAt (w.alloc (.cells #[.slice A1 n1 c1, .slice A2 n2 c2, .int .i64 0] t)) w.heap.size 0 A1 n1 c1 A2 n2 c2 ⟨d.pits, d.stores, 0⟩) := fun t =>
    have K := Blk.new w t #[.slice A1 n1 c1, .slice A2 n2 c2, .int .i64 0]
    ⟨K.cell 0, K.cell 1, K.cell 2, S1.out.later (boxed_ _ _), S2.out.later (boxed_ _ _)⟩
  have hr0 := HR.out.c0
  have hr2 := HR.out.c2
  have hlr := cell_lt hr0
  cases g2 : okPos r ⟨d.pits, d.stores, 0⟩
  all_goals have G2 := Lib.hid g2
  all_goals clear g2
  case false =>
    obtain rfl : q = false := by
      rw [← HQ.out]
      cases g1 : inB pl 0 1
      · exact okSown_1 g1
      · exact okSown_2 ((okPos_pl g1).trans G2.out)
    clear hr0 hr2
    go_enter Try.func13, Try.ntmps13
    go_wp2_with fail
    go_region
    go_wp2_with fail
    with_reducible refine Calls.mono (l04Ok_quiet r b o w.heap.size 0 A1 A2 n1 c1 n2 c2 ⟨d.pits, d.stores, 0⟩ _ ?_ ?_ hsz') ?_
    · exact (HR.out.later (boxed_ _ _)).drew
    · exact (HP.out _).drewN 1
    rw [G2.out]
    rintro e w1 ⟨rfl, m, rfl⟩
    go_wp2_with fail
    go_ret
    exact ⟨rfl, by (repeat' (first | (with_reducible exact Below.refl _ _) | (with_reducible assumption) | (with_reducible refine Below.alloc ?_ ?_ _) | (with_reducible refine Below.drew ?_) | (with_reducible refine belowDrewN ?_ _) | (with_reducible refine Below.setCell ?_ ?_ _) | (with_reducible refine Below.via (by with_reducible assumption) ?_ ?_) | (with_reducible refine Below.viaD (by with_reducible assumption) ?_ ?_) | (with_reducible exact Below.size (by with_reducible assumption)) | go_size | (with_reducible refine Nat.le_trans ?_ (Below.size (by with_reducible assumption))) | (with_reducible refine Nat.le_trans ?_ (sizeAlloc _ _)) | (with_reducible refine Nat.le_trans ?_ (sizeSet _ _ _)) | (with_reducible refine Nat.le_trans ?_ (sizeDrew _))))⟩
  case true =>
    obtain ⟨P, p, hP, h2, h8, hn, hn', hd0, _, ho, ho', _⟩ := okPos_of G2.out
    clear hd0
    simp only at hn hn'
    have HPP := Lib.hid hP
    rw [hP] at hr0
    have hn1 : n1 = 2 * P := by have := S1.out.ints; omega
    have hn2 : n2 = 2 := by have := S2.out.ints; omega
    clear hP hn hn'
    subst hn1 hn2
    cases g1 : inB pl 0 1
    case false =>
      obtain rfl : q = false := by rw [← HQ.out]; exact okSown_1 g1
      go_enter Try.func13, Try.ntmps13
      go_wp2_with fail
      go_region
      go_wp2_with fail
      with_reducible refine Calls.mono (l04Ok_quiet r b o w.heap.size 0 A1 A2 (2 * P) c1 2 c2 ⟨d.pits, d.stores, 0⟩ _ ?_ ?_ hsz') ?_
      · exact (HR.out.later (boxed_ _ _)).drew
      · exact (HP.out _).drewN 1
      rw [G2.out]
      rintro e w1 ⟨rfl, m, rfl⟩
      go_wp2_with (go_at_call 27; refine (l00In_any _ _ _ _).mono ?_; rintro e w_ ⟨rfl, rfl⟩)
      go_ret
      exact ⟨rfl, by (repeat' (first | (with_reducible exact Below.refl _ _) | (with_reducible assumption) | (with_reducible refine Below.alloc ?_ ?_ _) | (with_reducible refine Below.drew ?_) | (with_reducible refine belowDrewN ?_ _) | (with_reducible refine Below.setCell ?_ ?_ _) | (with_reducible refine Below.via (by with_reducible assumption) ?_ ?_) | (with_reducible refine Below.viaD (by with_reducible assumption) ?_ ?_) | (with_reducible exact Below.size (by with_reducible assumption)) | go_size | (with_reducible refine Nat.le_trans ?_ (Below.size (by with_reducible assumption))) | (with_reducible refine Nat.le_trans ?_ (sizeAlloc _ _)) | (with_reducible refine Nat.le_trans ?_ (sizeSet _ _ _)) | (with_reducible refine Nat.le_trans ?_ (sizeDrew _))))⟩
    case true =>
      cases g3 : inB d.laps 1 100
      case false =>
        obtain rfl : q = false := by rw [← HQ.out]; exact okSown_3 g3
        go_enter Try.func13, Try.ntmps13
        go_wp2_with fail
        go_region
        go_wp2_with fail
        with_reducible refine Calls.mono (l04Ok_quiet r b o w.heap.size 0 A1 A2 (2 * P) c1 2 c2 ⟨d.pits, d.stores, 0⟩ _ ?_ ?_ hsz') ?_
        · exact (HR.out.later (boxed_ _ _)).drew
        · exact (HP.out _).drewN 1
        rw [G2.out]
        rintro e w1 ⟨rfl, m, rfl⟩
        go_wp2_with (go_at_call 27; refine (l00In_any _ _ _ _).mono ?_; rintro e w_ ⟨rfl, rfl⟩)
        go_ret
        exact ⟨rfl, by (repeat' (first | (with_reducible exact Below.refl _ _) | (with_reducible assumption) | (with_reducible refine Below.alloc ?_ ?_ _) | (with_reducible refine Below.drew ?_) | (with_reducible refine belowDrewN ?_ _) | (with_reducible refine Below.setCell ?_ ?_ _) | (with_reducible refine Below.via (by with_reducible assumption) ?_ ?_) | (with_reducible refine Below.viaD (by with_reducible assumption) ?_ ?_) | (with_reducible exact Below.size (by with_reducible assumption)) | go_size | (with_reducible refine Nat.le_trans ?_ (Below.size (by with_reducible assumption))) | (with_reducible refine Nat.le_trans ?_ (sizeAlloc _ _)) | (with_reducible refine Nat.le_trans ?_ (sizeSet _ _ _)) | (with_reducible refine Nat.le_trans ?_ (sizeDrew _))))⟩
      case true =>
        have HQ2 := Lib.hid ((okSown_4 g1 ((okPos_pl g1).trans G2.out) g3).symm.trans HQ.out)
        obtain ⟨p', hp'⟩ := Int.eq_ofNat_of_zero_le (inB_of g1).1
        have hp2 : p' < 2 := by have := (inB_of g1).2; omega
        subst hp'
        by_cases g4 : d.last = -1
        case pos =>
          have g4b : (d.last == -1) = true := beq_iff_eq.2 g4
          have G4 := Lib.hid g4
          clear g4
          rcases Bool.eq_false_or_eq_true r.st with g5 | g5
          all_goals have G5 := Lib.hid g5
          all_goals clear g5
          all_goals
            go_enter Try.func13, Try.ntmps13
            go_wp2_with fail
            go_region
            go_wp2_with fail
            with_reducible refine Calls.mono (l04Ok_quiet r b o w.heap.size 0 A1 A2 (2 * P) c1 2 c2 ⟨d.pits, d.stores, 0⟩ _ ?_ ?_ hsz') ?_
            · exact (HR.out.later (boxed_ _ _)).drew
            · exact (HP.out _).drewN 1
            rw [G2.out]
            rintro e w1 ⟨rfl, m, rfl⟩
            obtain ⟨b3, off, z, rfl, hb, HZ, hc⟩ := S2.out.int (k := p') hp2
            have HQ3 : Hid ((r.st && decide (0 < z)) = q) := by
              unfold Hid
              rw [← HQ2.out, okLast, if_pos G4.out, Int.toNat_natCast, HZ.out]
            have g5 := G5.out
            go_wp2_with (go_at_call 27; refine (l00In_any _ _ _ _).mono ?_; rintro e w_ ⟨rfl, rfl⟩)
            all_goals
              have h9 := HQ3.out
              go_ret
              subst h9
              exact ⟨by simp [*], by (repeat' (first | (with_reducible exact Below.refl _ _) | (with_reducible assumption) | (with_reducible refine Below.alloc ?_ ?_ _) | (with_reducible refine Below.drew ?_) | (with_reducible refine belowDrewN ?_ _) | (with_reducible refine Below.setCell ?_ ?_ _) | (with_reducible refine Below.via (by with_reducible assumption) ?_ ?_) | (with_reducible refine Below.viaD (by with_reducible assumption) ?_ ?_) | (with_reducible exact Below.size (by with_reducible assumption)) | go_size | (with_reducible refine Nat.le_trans ?_ (Below.size (by with_reducible assumption))) | (with_reducible refine Nat.le_trans ?_ (sizeAlloc _ _)) | (with_reducible refine Nat.le_trans ?_ (sizeSet _ _ _)) | (with_reducible refine Nat.le_trans ?_ (sizeDrew _))))⟩
        case neg =>
          have g4b : (d.last == -1) = false := beq_eq_false_iff_ne.2 g4
          have hw1 : IntKind.i64.wrap (2 * (P : Int)) = 2 * (P : Int) := IntWalk.i64_in _ (by omega)
          have hw2 : IntKind.i64.wrap (2 * (P : Int) - 1) = 2 * (P : Int) - 1 := IntWalk.i64_in _ (by omega)
          cases g5 : inB d.last 0 (2 * (P : Int) - 1)
          case false =>
            obtain rfl : q = false := by rw [← HQ2.out, okLast, if_neg g4, HPP.out, g5]; rfl
            have G5 := Lib.hid g5
            clear g4
            go_enter Try.func13, Try.ntmps13
            go_wp2_with fail
            go_region
            go_wp2_with fail
            with_reducible refine Calls.mono (l04Ok_quiet r b o w.heap.size 0 A1 A2 (2 * P) c1 2 c2 ⟨d.pits, d.stores, 0⟩ _ ?_ ?_ hsz') ?_
            · exact (HR.out.later (boxed_ _ _)).drew
            · exact (HP.out _).drewN 1
            rw [G2.out]
            rintro e w1 ⟨rfl, m, rfl⟩
            go_wp2_with (go_at_call 27; refine (l00In_any _ _ _ _).mono ?_; rintro e w_ ⟨rfl, rfl⟩)
            first | (refine wp_region_quiet_lit (by kernel_rfl) (by kernel_rfl) ?_; refine WQ.of ?_; (repeat (refine WQ.step (fun K hK => ?_); go_simp; first | (refine hK _ ?_; clear hK K) | (apply Exists.intro; refine ⟨fun _ => ?_, hK _ ?_⟩; ((go_at_call 27; exact quiet_at (l00In_lit' G5.out _))); clear hK K))); refine WQ.nil ?_; intro _ hw'; obtain ⟨nq, hw''⟩ := hw'; subst hw'') | go_quiet ((go_at_call 27; exact quiet_at (l00In_lit' G5.out _)))
            go_wp2_with fail
            go_ret
            exact ⟨by first | rfl | simp [*], by (repeat' (first | (with_reducible exact Below.refl _ _) | (with_reducible assumption) | (with_reducible refine Below.alloc ?_ ?_ _) | (with_reducible refine Below.drew ?_) | (with_reducible refine belowDrewN ?_ _) | (with_reducible refine Below.setCell ?_ ?_ _) | (with_reducible refine Below.via (by with_reducible assumption) ?_ ?_) | (with_reducible refine Below.viaD (by with_reducible assumption) ?_ ?_) | (with_reducible exact Below.size (by with_reducible assumption)) | go_size | (with_reducible refine Nat.le_trans ?_ (Below.size (by with_reducible assumption))) | (with_reducible refine Nat.le_trans ?_ (sizeAlloc _ _)) | (with_reducible refine Nat.le_trans ?_ (sizeSet _ _ _)) | (with_reducible refine Nat.le_trans ?_ (sizeDrew _))))⟩
          case true =>
            obtain ⟨k, hk⟩ := Int.eq_ofNat_of_zero_le (inB_of g5).1
            have hk2 : k < 2 * P := by have := (inB_of g5).2; omega
            have HQ3 : Hid (decide (0 < d.pits.getD k 0) = q) := by
              unfold Hid
              rw [← HQ2.out, okLast, if_neg g4, HPP.out, g5, hk, Int.toNat_natCast]
              rfl
            clear g4
            obtain ⟨pits, stores, last, laps⟩ := d
            simp only at hk
            subst hk
            obtain ⟨b3, off, z, rfl, hb, HZ, hc⟩ := S1.out.int (k := k) hk2
            (try simp only at HZ)
            (try simp only at HQ3)
            rw [HZ.out] at HQ3
            have G5 := Lib.hid g5
            go_enter Try.func13, Try.ntmps13
            go_wp2_with fail
            go_region
            go_wp2_with fail
            with_reducible refine Calls.mono (l04Ok_quiet r b o w.heap.size 0 (some ⟨b3, off, none⟩) A2 (2 * P) c1 2 c2 ⟨pits, stores, 0⟩ _ ?_ ?_ hsz') ?_
            · exact (HR.out.later (boxed_ _ _)).drew
            · exact (HP.out _).drewN 1
            rw [G2.out]
            rintro e w1 ⟨rfl, m, rfl⟩
            have g4c : ((k : Int) == -1) = false := g4b
            go_wp2_with (go_at_call 27; refine (l00In_any _ _ _ _).mono ?_; rintro e w_ ⟨rfl, rfl⟩)
            first | (refine wp_region_quiet_lit (by kernel_rfl) (by kernel_rfl) ?_; refine WQ.of ?_; (repeat (refine WQ.step (fun K hK => ?_); go_simp; first | (refine hK _ ?_; clear hK K) | (apply Exists.intro; refine ⟨fun _ => ?_, hK _ ?_⟩; ((go_at_call 27; exact quiet_at (l00In_lit' G5.out _))); clear hK K))); refine WQ.nil ?_; intro _ hw'; obtain ⟨nq, hw''⟩ := hw'; subst hw'') | go_quiet ((go_at_call 27; exact quiet_at (l00In_lit' G5.out _)))
            go_wp2_with fail
            all_goals
              have h9 := HQ3.out
              go_ret
              subst h9
              exact ⟨by first | rfl | simp [*], by (repeat' (first | (with_reducible exact Below.refl _ _) | (with_reducible assumption) | (with_reducible refine Below.alloc ?_ ?_ _) | (with_reducible refine Below.drew ?_) | (with_reducible refine belowDrewN ?_ _) | (with_reducible refine Below.setCell ?_ ?_ _) | (with_reducible refine Below.via (by with_reducible assumption) ?_ ?_) | (with_reducible refine Below.viaD (by with_reducible assumption) ?_ ?_) | (with_reducible exact Below.size (by with_reducible assumption)) | go_size | (with_reducible refine Nat.le_trans ?_ (Below.size (by with_reducible assumption))) | (with_reducible refine Nat.le_trans ?_ (sizeAlloc _ _)) | (with_reducible refine Nat.le_trans ?_ (sizeSet _ _ _)) | (with_reducible refine Nat.le_trans ?_ (sizeDrew _))))⟩
end Go.Proofs.Ytcfbihponecblaa
/- FnCaptures: rules, valid sown seeds and a player are drawn. Conditions: at most 2^20 bytes. -/
namespace Go.Proofs.Ytcfbihponecblaa
set_option linter.unusedSimpArgs false
set_option linter.unusedVariables false
open Go.RowKit Go.WideShapes Go.ChangeShapes

/-- Rules, valid sown seeds, a player. -/
def A2S (w : World) (e : Ending) (w' : World) : Prop := ∃ (r : Ru) (A1 A2 : Option Addr) (n1 c1 c2 : Nat) (d : SownD) (pl : Int), e = .returned (.tuple #[.agg #[.int .i64 r.p, .int .i64 r.s, .bool r.st, .bool r.sk, .bool r.re, .bool r.fe, .bool r.ag, .int .i64 r.ca, .int .i64 r.sl], .agg #[.slice A1 n1 c1, .slice A2 2 c2, .int .i64 d.last, .int .i64 d.laps], .int .i64 pl]) ∧ okSown r d pl = true ∧ n1 ≤ 16 ∧ n1 ≤ c1 ∧ c1 ≤ 9223372036854775807 ∧ Sl w' w'.heap.size 1 A1 n1 (d.pits.map (Value.int .i64)) ∧ Sl w' w'.heap.size 1 A2 2 (d.stores.map (Value.int .i64)) ∧ Below w.heap.size w w'
theorem RuAt.ofBlk {w : World} {g : Nat} {t : TypeId} {r : Ru} (h : Blk w g t #[.int .i64 r.p, .int .i64 r.s, .bool r.st, .bool r.sk, .bool r.re, .bool r.fe, .bool r.ag, .int .i64 r.ca, .int .i64 r.sl]) : RuAt w g 0 r := ⟨h.cell 0, h.cell 1, h.cell 2, h.cell 3, h.cell 4, h.cell 5, h.cell 6, h.cell 7, h.cell 8⟩
theorem SownAt.ofBlk {w : World} {g : Nat} {t : TypeId} {A1 A2 : Option Addr} {n1 c1 n2 c2 : Nat} {d : SownD} (h : Blk w g t #[.slice A1 n1 c1, .slice A2 n2 c2, .int .i64 d.last, .int .i64 d.laps]) (s1 : Sl w w.heap.size 1 A1 n1 (d.pits.map (Value.int .i64))) (s2 : Sl w w.heap.size 1 A2 n2 (d.stores.map (Value.int .i64))) : SownAt w g 0 A1 n1 c1 A2 n2 c2 d := ⟨h.cell 0, h.cell 1, h.cell 2, h.cell 3, s1, s2⟩
theorem mini_ok : okSown ⟨3, 2, false, false, false, true, false, 1, 0⟩ ⟨[1, 0, 0, 2, 0, 1], [0, 0], 3, 1⟩ 0 = true := by decide +kernel
theorem sl_setF {w : World} {g o : Nat} {n : Nat} {A : Option Addr} {vs : List Value} {u : Value} (h : Sl w w.heap.size 1 A n vs) (hne : ∀ b off, A = some ⟨b, off, none⟩ → 0 < n → b ≠ g) : Sl (w.setCell ⟨g, o, none⟩ u) (w.setCell ⟨g, o, none⟩ u).heap.size 1 A n vs :=
  ⟨h.1, fun hn => by
    obtain ⟨b, off, e, hb, hc⟩ := h.2 hn
    have hz := sizeSet w ⟨g, o, none⟩ u
    exact ⟨b, off, e, by omega, fun j v hv => c1_set (hc j v hv) (fun e' => hne b off e hn e'.symm)⟩⟩
theorem sl_drF {w : World} {n : Nat} {A : Option Addr} {vs : List Value} (h : Sl w w.heap.size 1 A n vs) : Sl w.drew w.drew.heap.size 1 A n vs := h.drew
/-- A store over fresh memory: the world is named. -/
theorem wpList_name {P : Program} {ops : Array Oper} {Q : Exit → Act → World → Prop} {rest : List Oper} {o : Oper} {a : Act} {w : World} {ob : Obj} (_ : o.dst = none)
    (h : ∀ w', w' = w.alloc ob → wpList P ops Q (o :: rest) a w') : wpList P ops Q (o :: rest) a (w.alloc ob) := h _ rfl
set_option maxRecDepth 20000 in
set_option maxHeartbeats 4000000 in
theorem A2Sown_any (A : Option Addr) (n c : Nat) (cs : List Int) (w : World) (hs : Sl w w.heap.size 1 A n (cs.map (Value.int .u8))) (hc : ∀ z ∈ cs, 0 ≤ z ∧ z ≤ 255) (hn : n ≤ 1048576) :
    Calls Try.prog 5 #[.slice A n c] w (A2S w) := by
  have HC := Lib.hid hc
  have HS := Lib.hid hs
  clear hs hc
  go_enter Try.func5, Try.ntmps5
  go_upto_region 1 with fail
  obtain ⟨wa, hwa⟩ : ∃ X_, X_ = (w.alloc (.cells #[.int .i64 0, .int .i64 0, .bool false, .bool false, .bool false, .bool false, .bool false, .int .i64 0, .int .i64 0] 25)).alloc (.cells #[.slice none 0 0, .slice none 0 0, .int .i64 0, .int .i64 0] 28) := ⟨_, rfl⟩
  have Ba : Hid (Below w.heap.size w wa) := by unfold Hid; rw [hwa]; (repeat' (first | (with_reducible exact Below.refl _ _) | (with_reducible assumption) | (with_reducible refine Below.alloc ?_ ?_ _) | (with_reducible refine Below.drew ?_) | (with_reducible refine belowDrewN ?_ _) | (with_reducible refine Below.setCell ?_ ?_ _) | (with_reducible refine Below.via (by with_reducible assumption) ?_ ?_) | (with_reducible refine Below.viaD (by with_reducible assumption) ?_ ?_) | (with_reducible exact Below.size (by with_reducible assumption)) | go_size | (with_reducible refine Nat.le_trans ?_ (Below.size (by with_reducible assumption))) | (with_reducible refine Nat.le_trans ?_ (sizeAlloc _ _)) | (with_reducible refine Nat.le_trans ?_ (sizeSet _ _ _)) | (with_reducible refine Nat.le_trans ?_ (sizeDrew _))))
  have R1 : Hid (Blk wa w.heap.size 25 #[.int .i64 0, .int .i64 0, .bool false, .bool false, .bool false, .bool false, .bool false, .int .i64 0, .int .i64 0]) := by unfold Hid; rw [hwa]; exact (Blk.new _ _ _).later (Below.alloc (Below.refl _ _) (Nat.le_refl _) _)
  have R2 : Hid (Blk wa (w.heap.size + 1) 28 #[.slice none 0 0, .slice none 0 0, .int .i64 0, .int .i64 0]) := by unfold Hid; rw [hwa]; exact Blk.new' (by simp)
  have hza : wa.heap.size = w.heap.size + 2 := by rw [hwa]; simp
  rw [← hwa]
  clear hwa
  go_wp2_with fail
  refine (l00From_any A n c cs wa ((HS.out.below Ba.out).mono Ba.out.size) HC.out).mono ?_
  rintro e w1 ⟨b, rfl, hb, S1, hb1⟩
  have HS1 := Lib.hid S1
  have R11 := Lib.hid (R1.out.later hb1)
  have R21 := Lib.hid (R2.out.later hb1)
  have B1 := Lib.hid (Below.via hb1 Ba.out Ba.out.size)
  have hz1 := hb1.size
  clear S1 hb1 R1 R2 Ba HS HC
  go_wp2_with fail
  go_loopw [6] (fun v6 wr => ∃ k : Nat, v6 = .int .i64 k ∧ k ≤ 8 ∧ Src wr b A n c (400 * k) cs ∧ Below w.heap.size w wr ∧ Blk wr w.heap.size 25 #[.int .i64 0, .int .i64 0, .bool false, .bool false, .bool false, .bool false, .bool false, .int .i64 0, .int .i64 0] ∧ Blk wr (w.heap.size + 1) 28 #[.slice none 0 0, .slice none 0 0, .int .i64 0, .int .i64 0] ∧ w.heap.size + 2 ≤ wr.heap.size) (fun v6 _ => 8 - (intOf v6).toNat)
  case atStart => exact ⟨0, rfl, by omega, HS1.out, B1.out, R11.out, R21.out, by omega⟩
  case round =>
    obtain ⟨k, rfl, hk, So, Bo, R1o, R2o, hzo⟩ := hrel
    rename World => wo
    have HSo := Lib.hid So
    have HBo := Lib.hid Bo
    have R1o := Lib.hid R1o
    have R2o := Lib.hid R2o
    clear So Bo HS1 R11 R21 B1
    by_cases hlt : k < 8
    case pos =>
      have hlt' : (k : Int) < 8 := by omega
      go_wp2_with fail
      refine (l06Draw_any b A n c (400 * k) cs wo HSo.out hn (by omega)).mono ?_
      rintro e w2 ⟨p, s, st, sk, re, fe, ag, ca, sl, A1, A2, n1, c1, c2, zs, zs2, last, laps, pl, rfl, hn1, hc1, hc2, Sa, Sb, ha1, ha2, S2, gg⟩
      have HSa := Lib.hid Sa
      have HSb := Lib.hid Sb
      have HS2 := Lib.hid S2
      have R12 := Lib.hid (blk_over R1o.out gg (some_ne (by omega)))
      have R22 := Lib.hid (blk_over R2o.out gg (some_ne (by omega)))
      have B2 := Lib.hid (below_src HBo.out gg (by omega) (by omega))
      have hz2 := gg.size
      clear Sa Sb S2 gg HSo HBo R1o R2o
      go_upto_region 6 with fail
      obtain ⟨w3, hw3⟩ : ∃ X_, X_ = (w2.alloc (.cells #[.int .i64 p, .int .i64 s, .bool st, .bool sk, .bool re, .bool fe, .bool ag, .int .i64 ca, .int .i64 sl] 25)).alloc (.cells #[.slice A1 n1 c1, .slice A2 2 c2, .int .i64 last, .int .i64 laps] 28) := ⟨_, rfl⟩
      have N3 : Hid (Below w2.heap.size w2 w3) := by unfold Hid; rw [hw3]; (repeat' (first | (with_reducible exact Below.refl _ _) | (with_reducible assumption) | (with_reducible refine Below.alloc ?_ ?_ _) | (with_reducible refine Below.drew ?_) | (with_reducible refine belowDrewN ?_ _) | (with_reducible refine Below.setCell ?_ ?_ _) | (with_reducible refine Below.via (by with_reducible assumption) ?_ ?_) | (with_reducible refine Below.viaD (by with_reducible assumption) ?_ ?_) | (with_reducible exact Below.size (by with_reducible assumption)) | go_size | (with_reducible refine Nat.le_trans ?_ (Below.size (by with_reducible assumption))) | (with_reducible refine Nat.le_trans ?_ (sizeAlloc _ _)) | (with_reducible refine Nat.le_trans ?_ (sizeSet _ _ _)) | (with_reducible refine Nat.le_trans ?_ (sizeDrew _))))
      have X3 : Hid (Blk w3 w2.heap.size 25 #[.int .i64 p, .int .i64 s, .bool st, .bool sk, .bool re, .bool fe, .bool ag, .int .i64 ca, .int .i64 sl]) := by unfold Hid; rw [hw3]; exact (Blk.new _ _ _).later (Below.alloc (Below.refl _ _) (Nat.le_refl _) _)
      have Y3 : Hid (Blk w3 (w2.heap.size + 1) 28 #[.slice A1 n1 c1, .slice A2 2 c2, .int .i64 last, .int .i64 laps]) := by unfold Hid; rw [hw3]; exact Blk.new' (by simp)
      rw [← hw3]
      clear hw3
      have HSa3 := Lib.hid (HSa.out.later N3.out)
      have HSb3 := Lib.hid (HSb.out.later N3.out)
      have HS3 := Lib.hid (HS2.out.later N3.out)
      have R13 := Lib.hid (R12.out.later N3.out)
      have R23 := Lib.hid (R22.out.later N3.out)
      have B3 := Lib.hid (Below.via N3.out B2.out (by omega))
      have hz3 := N3.out.size
      have hl1 : zs.length = n1 := HSa3.out.ints
      have hl2 : zs2.length = 2 := HSb3.out.ints
      clear N3 HSa HSb HS2 R12 R22 B2
      obtain ⟨q, hq⟩ : ∃ q, okSown ⟨p, s, st, sk, re, fe, ag, ca, sl⟩ ⟨zs, zs2, last, laps⟩ pl = q := ⟨_, rfl⟩
      have HQ := Lib.hid hq
      clear hq
      go_wp2_with fail
      refine (l06Ok_any ⟨p, s, st, sk, re, fe, ag, ca, sl⟩ w2.heap.size 0 (w2.heap.size + 1) 0 A1 A2 n1 c1 2 c2 ⟨zs, zs2, last, laps⟩ pl q w3 (RuAt.ofBlk X3.out) (SownAt.ofBlk Y3.out HSa3.out HSb3.out) (by rw [szSown]; dsimp only; omega) HQ.out).mono ?_
      rintro e w4 ⟨rfl, hb4⟩
      have HSa4 := Lib.hid (HSa3.out.later hb4)
      have HSb4 := Lib.hid (HSb3.out.later hb4)
      have HS4 := Lib.hid (HS3.out.later hb4)
      have R14 := Lib.hid (R13.out.later hb4)
      have R24 := Lib.hid (R23.out.later hb4)
      have X4 := Lib.hid (X3.out.later hb4)
      have Y4 := Lib.hid (Y3.out.later hb4)
      have B4 := Lib.hid (Below.via hb4 B3.out (by omega))
      have hz4 := hb4.size
      clear hb4 HSa3 HSb3 HS3 R13 R23 X3 Y3 B3
      cases q
      case false =>
        go_wp2_with fail
        go_roundw
        case rel => exact ⟨k + 1, by first | rfl | go_num, by omega, HS4.out.mono (by omega), B4.out, R14.out, R24.out, by omega⟩
        case measure => first | (simp [intOf]; done) | (simp [intOf]; omega)
      case true =>
        have HST : Hid (Blk w4.drew w2.heap.size 25 #[.int .i64 p, .int .i64 s, .bool st, .bool sk, .bool re, .bool fe, .bool ag, .int .i64 ca, .int .i64 sl] ∧ Blk w4.drew (w2.heap.size + 1) 28 #[.slice A1 n1 c1, .slice A2 2 c2, .int .i64 last, .int .i64 laps]) := ⟨X4.out, Y4.out⟩
        obtain ⟨⟨r0, r1, r2, r3, r4, r5, r6, r7, r8⟩, ⟨f0, f1, f2, f3, f4, f5, f6, f7, f8⟩, hrl⟩ := blk9 R14.out
        obtain ⟨⟨s0, s1, s2, s3⟩, ⟨t0, t1, t2, t3⟩, hsl⟩ := blk4 R24.out
        have hne1 : w.heap.size ≠ w.heap.size + 1 := by omega
        have hne2 : w.heap.size + 1 ≠ w.heap.size := by omega
        have hne3 : w2.heap.size ≠ w.heap.size := by omega
        have hne4 : w2.heap.size ≠ w.heap.size + 1 := by omega
        have hne5 : w2.heap.size + 1 ≠ w.heap.size := by omega
        have hne6 : w2.heap.size + 1 ≠ w.heap.size + 1 := by omega
        have hna1 : ∀ b off, A1 = some ⟨b, off, none⟩ → 0 < n1 → b ≠ w.heap.size := fun b off e _ => by have := ha1 b off e; omega
        have hna2 : ∀ b off, A1 = some ⟨b, off, none⟩ → 0 < n1 → b ≠ w.heap.size + 1 := fun b off e _ => by have := ha1 b off e; omega
        have hna3 : ∀ b off, A2 = some ⟨b, off, none⟩ → 0 < 2 → b ≠ w.heap.size := fun b off e _ => by have := ha2 b off e; omega
        have hna4 : ∀ b off, A2 = some ⟨b, off, none⟩ → 0 < 2 → b ≠ w.heap.size + 1 := fun b off e _ => by have := ha2 b off e; omega
        go_wp2_with fail
        refine wp_region_held_drew (S := (fun W => Blk W w2.heap.size 25 #[.int .i64 p, .int .i64 s, .bool st, .bool sk, .bool re, .bool fe, .bool ag, .int .i64 ca, .int .i64 sl] ∧ Blk W (w2.heap.size + 1) 28 #[.slice A1 n1 c1, .slice A2 2 c2, .int .i64 last, .int .i64 laps])) (by kernel_rfl) ?_ (fun hHeld => ?_)
        focus ((try dsimp only); (first | (with_reducible exact nine_keepD hHeld hne3 hne5) | (with_reducible exact four_keepD hHeld hne4 hne6) | (with_reducible exact HST.out)))
        refine H_take (i := 0) (v := ?_) rfl (by kernel_rfl) (by kernel_rfl) (by kernel_rfl) (fun _ _ _ h => h) (by rfl) ?_ (by assumption) ?_
        rotate_left
        focus (intro w hSw; obtain ⟨X1, X2⟩ := hSw; obtain ⟨⟨c0, c1_, c2_, c3, c4, c5, c6, c7, c8⟩, _, _⟩ := blk9 X1; obtain ⟨⟨d0, d1, d2, d3⟩, _, _⟩ := blk4 X2; go_simp; first | done | with_reducible rfl | (trace_state; fail))
        try simp only [Act.put, List.setIfInBounds_toArray, List.set_cons_zero, List.set_cons_succ]
        refine H_take (i := 1) (v := ?_) rfl (by kernel_rfl) (by kernel_rfl) (by kernel_rfl) (fun _ _ _ h => h) (by rfl) ?_ (by assumption) ?_
        rotate_left
        focus (intro w hSw; obtain ⟨X1, X2⟩ := hSw; obtain ⟨⟨c0, c1_, c2_, c3, c4, c5, c6, c7, c8⟩, _, _⟩ := blk9 X1; obtain ⟨⟨d0, d1, d2, d3⟩, _, _⟩ := blk4 X2; go_simp; first | done | with_reducible rfl | (trace_state; fail))
        try simp only [Act.put, List.setIfInBounds_toArray, List.set_cons_zero, List.set_cons_succ]
        refine H_take (i := 2) (v := ?_) rfl (by kernel_rfl) (by kernel_rfl) (by kernel_rfl) (fun _ _ _ h => h) (by rfl) ?_ (by assumption) ?_
        rotate_left
        focus (intro w hSw; obtain ⟨X1, X2⟩ := hSw; obtain ⟨⟨c0, c1_, c2_, c3, c4, c5, c6, c7, c8⟩, _, _⟩ := blk9 X1; obtain ⟨⟨d0, d1, d2, d3⟩, _, _⟩ := blk4 X2; go_simp; first | done | with_reducible rfl | (trace_state; fail))
        try simp only [Act.put, List.setIfInBounds_toArray, List.set_cons_zero, List.set_cons_succ]
        refine H_call (i := 3) rfl (by kernel_rfl) (fun K hK => ?_)
        go_simp
        skip
        refine hK.out _ _ ?_ (fun hHeld => ?_)
        focus ((try dsimp only); (first | (with_reducible exact nine_keepD hHeld hne3 hne5) | (with_reducible exact four_keepD hHeld hne4 hne6) | (with_reducible exact HST.out)))
        clear hK K
        try simp only [Act.put, List.setIfInBounds_toArray, List.set_cons_zero, List.set_cons_succ]
        refine H_call (i := 4) rfl (by kernel_rfl) (fun K hK => ?_)
        go_simp
        skip
        refine hK.out _ _ ?_ (fun hHeld => ?_)
        focus ((try dsimp only); (first | (with_reducible exact nine_keepD hHeld hne3 hne5) | (with_reducible exact four_keepD hHeld hne4 hne6) | (with_reducible exact HST.out)))
        clear hK K
        try simp only [Act.put, List.setIfInBounds_toArray, List.set_cons_zero, List.set_cons_succ]
        refine H_take (i := 5) (v := ?_) rfl (by kernel_rfl) (by kernel_rfl) (by kernel_rfl) (fun _ _ _ h => h) (by rfl) ?_ (by assumption) ?_
        rotate_left
        focus (intro w hSw; obtain ⟨X1, X2⟩ := hSw; obtain ⟨⟨c0, c1_, c2_, c3, c4, c5, c6, c7, c8⟩, _, _⟩ := blk9 X1; obtain ⟨⟨d0, d1, d2, d3⟩, _, _⟩ := blk4 X2; go_simp; first | done | with_reducible rfl | (trace_state; fail))
        try simp only [Act.put, List.setIfInBounds_toArray, List.set_cons_zero, List.set_cons_succ]
        refine wpAnyH_done (by kernel_rfl) ?_ _
        go_wp2_with fail
        (try simp only [Exit.inBlock, Exit.then])
        clear r0 r1 r2 r3 r4 r5 r6 r7 r8 f0 f1 f2 f3 f4 f5 f6 f7 f8 s0 s1 s2 s3 t0 t1 t2 t3 hHeld HST
        have F1 : Blk (((((((((w4.setCell ⟨w.heap.size, 0, none⟩ (.int .i64 p)).setCell ⟨w.heap.size, 1, none⟩ (.int .i64 s)).setCell ⟨w.heap.size, 2, none⟩ (.bool st)).setCell ⟨w.heap.size, 3, none⟩ (.bool sk)).setCell ⟨w.heap.size, 4, none⟩ (.bool re)).setCell ⟨w.heap.size, 5, none⟩ (.bool fe)).setCell ⟨w.heap.size, 6, none⟩ (.bool ag)).setCell ⟨w.heap.size, 7, none⟩ (.int .i64 ca)).setCell ⟨w.heap.size, 8, none⟩ (.int .i64 sl)) w.heap.size 25 #[.int .i64 p, .int .i64 s, .bool st, .bool sk, .bool re, .bool fe, .bool ag, .int .i64 ca, .int .i64 sl] := st9_blk R14.out
        have F2 : Blk (((((((((((((w4.setCell ⟨w.heap.size, 0, none⟩ (.int .i64 p)).setCell ⟨w.heap.size, 1, none⟩ (.int .i64 s)).setCell ⟨w.heap.size, 2, none⟩ (.bool st)).setCell ⟨w.heap.size, 3, none⟩ (.bool sk)).setCell ⟨w.heap.size, 4, none⟩ (.bool re)).setCell ⟨w.heap.size, 5, none⟩ (.bool fe)).setCell ⟨w.heap.size, 6, none⟩ (.bool ag)).setCell ⟨w.heap.size, 7, none⟩ (.int .i64 ca)).setCell ⟨w.heap.size, 8, none⟩ (.int .i64 sl)).setCell ⟨w.heap.size + 1, 0, none⟩ (.slice A1 n1 c1)).setCell ⟨w.heap.size + 1, 1, none⟩ (.slice A2 2 c2)).setCell ⟨w.heap.size + 1, 2, none⟩ (.int .i64 last)).setCell ⟨w.heap.size + 1, 3, none⟩ (.int .i64 laps)) w.heap.size 25 #[.int .i64 p, .int .i64 s, .bool st, .bool sk, .bool re, .bool fe, .bool ag, .int .i64 ca, .int .i64 sl] := (blk_setF (blk_setF (blk_setF (blk_setF F1 hne1) hne1) hne1) hne1)
        have F3 : Blk (((((((((((((w4.setCell ⟨w.heap.size, 0, none⟩ (.int .i64 p)).setCell ⟨w.heap.size, 1, none⟩ (.int .i64 s)).setCell ⟨w.heap.size, 2, none⟩ (.bool st)).setCell ⟨w.heap.size, 3, none⟩ (.bool sk)).setCell ⟨w.heap.size, 4, none⟩ (.bool re)).setCell ⟨w.heap.size, 5, none⟩ (.bool fe)).setCell ⟨w.heap.size, 6, none⟩ (.bool ag)).setCell ⟨w.heap.size, 7, none⟩ (.int .i64 ca)).setCell ⟨w.heap.size, 8, none⟩ (.int .i64 sl)).setCell ⟨w.heap.size + 1, 0, none⟩ (.slice A1 n1 c1)).setCell ⟨w.heap.size + 1, 1, none⟩ (.slice A2 2 c2)).setCell ⟨w.heap.size + 1, 2, none⟩ (.int .i64 last)).setCell ⟨w.heap.size + 1, 3, none⟩ (.int .i64 laps)) (w.heap.size + 1) 28 #[.slice A1 n1 c1, .slice A2 2 c2, .int .i64 last, .int .i64 laps] := st4_blk (blk_setF (blk_setF (blk_setF (blk_setF (blk_setF (blk_setF (blk_setF (blk_setF (blk_setF R24.out hne2) hne2) hne2) hne2) hne2) hne2) hne2) hne2) hne2)
        obtain ⟨wz, hwz⟩ : ∃ X_, X_ = (((((((((((((w4.setCell ⟨w.heap.size, 0, none⟩ (.int .i64 p)).setCell ⟨w.heap.size, 1, none⟩ (.int .i64 s)).setCell ⟨w.heap.size, 2, none⟩ (.bool st)).setCell ⟨w.heap.size, 3, none⟩ (.bool sk)).setCell ⟨w.heap.size, 4, none⟩ (.bool re)).setCell ⟨w.heap.size, 5, none⟩ (.bool fe)).setCell ⟨w.heap.size, 6, none⟩ (.bool ag)).setCell ⟨w.heap.size, 7, none⟩ (.int .i64 ca)).setCell ⟨w.heap.size, 8, none⟩ (.int .i64 sl)).setCell ⟨w.heap.size + 1, 0, none⟩ (.slice A1 n1 c1)).setCell ⟨w.heap.size + 1, 1, none⟩ (.slice A2 2 c2)).setCell ⟨w.heap.size + 1, 2, none⟩ (.int .i64 last)).setCell ⟨w.heap.size + 1, 3, none⟩ (.int .i64 laps)).drew := ⟨_, rfl⟩
        have E1 : Blk wz w.heap.size 25 #[.int .i64 p, .int .i64 s, .bool st, .bool sk, .bool re, .bool fe, .bool ag, .int .i64 ca, .int .i64 sl] := by rw [hwz]; exact F2.drewB
        have E2 : Blk wz (w.heap.size + 1) 28 #[.slice A1 n1 c1, .slice A2 2 c2, .int .i64 last, .int .i64 laps] := by rw [hwz]; exact F3.drewB
        have E3 : Sl wz wz.heap.size 1 A1 n1 (zs.map (Value.int .i64)) := by
          rw [hwz]
          (repeat (first | (with_reducible refine sl_drF ?_) | (with_reducible refine sl_setF ?_ hna1) | (with_reducible refine sl_setF ?_ hna2))); with_reducible exact HSa4.out
        have E4 : Sl wz wz.heap.size 1 A2 2 (zs2.map (Value.int .i64)) := by
          rw [hwz]
          (repeat (first | (with_reducible refine sl_drF ?_) | (with_reducible refine sl_setF ?_ hna3) | (with_reducible refine sl_setF ?_ hna4))); with_reducible exact HSb4.out
        have hgw1 : w.heap.size ≤ w.heap.size := Nat.le_refl _
        have hgw2 : w.heap.size ≤ w.heap.size + 1 := Nat.le_succ _
        have E6 : Below w.heap.size w wz := by
          rw [hwz]
          (repeat (first | (with_reducible refine Below.drew ?_) | (with_reducible refine Below.setCell ?_ hgw1 _) | (with_reducible refine Below.setCell ?_ hgw2 _))); exact B4.out
        have E1 := Lib.hid E1
        have E2 := Lib.hid E2
        have E3 := Lib.hid E3
        have E4 := Lib.hid E4
        have E6 := Lib.hid E6
        rw [← hwz]
        clear hwz F1 F2 F3
        obtain ⟨⟨z0, z1, z2, z3, z4, z5, z6, z7, z8⟩, _, _⟩ := blk9 E1.out
        obtain ⟨⟨y0, y1, y2, y3⟩, _, _⟩ := blk4 E2.out
        refine bodyPost_ret (by simp [results, Try.results5, go_sem, z0, z1, z2, z3, z4, z5, z6, z7, z8, y0, y1, y2, y3]; try rfl) rfl ?_
        exact ⟨⟨p, s, st, sk, re, fe, ag, ca, sl⟩, A1, A2, n1, c1, c2, ⟨zs, zs2, last, laps⟩, pl, rfl, HQ.out, hn1, hc1, hc2, E3.out, E4.out, E6.out⟩
    case neg =>
      obtain rfl : k = 8 := by omega
      go_wp2_with fail
      refine (StandardRules_mini wo).mono ?_
      rintro e w2 ⟨rfl, hb2⟩
      have R12 := Lib.hid (R1o.out.later hb2)
      have R22 := Lib.hid (R2o.out.later hb2)
      have B2 := Lib.hid (Below.via hb2 HBo.out (by omega))
      have hz2 := hb2.size
      clear hb2 HSo HBo R1o R2o
      go_upto_region 9 with fail
      obtain ⟨w3, hw3⟩ : ∃ X_, X_ = w2.alloc (.cells #[.int .i64 3, .int .i64 2, .bool false, .bool false, .bool false, .bool true, .bool false, .int .i64 1, .int .i64 0] 25) := ⟨_, rfl⟩
      have N3 : Hid (Below w2.heap.size w2 w3) := by unfold Hid; rw [hw3]; exact Below.alloc (Below.refl _ _) (Nat.le_refl _) _
      have X3 : Hid (Blk w3 w2.heap.size 25 #[.int .i64 3, .int .i64 2, .bool false, .bool false, .bool false, .bool true, .bool false, .int .i64 1, .int .i64 0]) := by unfold Hid; rw [hw3]; exact Blk.new _ _ _
      rw [← hw3]
      clear hw3
      have R13 := Lib.hid (R12.out.later N3.out)
      have R23 := Lib.hid (R22.out.later N3.out)
      have B3 := Lib.hid (Below.via N3.out B2.out (by omega))
      have hz3 := N3.out.size
      clear N3 R12 R22 B2
      obtain ⟨⟨x0, x1, x2, x3, x4, x5, x6, x7, x8⟩, _, hxl⟩ := blk9 X3.out
      have N5 : Below w3.heap.size w3 ((w3.alloc (.cells #[.int .i64 1, .int .i64 0, .int .i64 0, .int .i64 2, .int .i64 0, .int .i64 1] 2)).alloc (.cells #[.int .i64 0, .int .i64 0] 2)) := by (repeat' (first | (with_reducible exact Below.refl _ _) | (with_reducible assumption) | (with_reducible refine Below.alloc ?_ ?_ _) | (with_reducible refine Below.drew ?_) | (with_reducible refine belowDrewN ?_ _) | (with_reducible refine Below.setCell ?_ ?_ _) | (with_reducible refine Below.via (by with_reducible assumption) ?_ ?_) | (with_reducible refine Below.viaD (by with_reducible assumption) ?_ ?_) | (with_reducible exact Below.size (by with_reducible assumption)) | go_size | (with_reducible refine Nat.le_trans ?_ (Below.size (by with_reducible assumption))) | (with_reducible refine Nat.le_trans ?_ (sizeAlloc _ _)) | (with_reducible refine Nat.le_trans ?_ (sizeSet _ _ _)) | (with_reducible refine Nat.le_trans ?_ (sizeDrew _))))
      have O5 : Blk ((w3.alloc (.cells #[.int .i64 1, .int .i64 0, .int .i64 0, .int .i64 2, .int .i64 0, .int .i64 1] 2)).alloc (.cells #[.int .i64 0, .int .i64 0] 2)) w3.heap.size 2 #[.int .i64 1, .int .i64 0, .int .i64 0, .int .i64 2, .int .i64 0, .int .i64 1] := (Blk.new _ _ _).later (Below.alloc (Below.refl _ _) (Nat.le_refl _) _)
      have U5 : Blk ((w3.alloc (.cells #[.int .i64 1, .int .i64 0, .int .i64 0, .int .i64 2, .int .i64 0, .int .i64 1] 2)).alloc (.cells #[.int .i64 0, .int .i64 0] 2)) (w3.heap.size + 1) 2 #[.int .i64 0, .int .i64 0] := Blk.new' (by simp)
      have hne1 : w.heap.size ≠ w.heap.size + 1 := by omega
      have hne2 : w.heap.size + 1 ≠ w.heap.size := by omega
      have N5 := Lib.hid N5
      have O5 := Lib.hid O5
      have U5 := Lib.hid U5
      go_wp2_with ((with_reducible refine wpList_name rfl ?_); intro wn hwn; rw [← hwn] at N5 O5 U5; have Rn1 := Lib.hid (R13.out.later N5.out); have Rn2 := Lib.hid (R23.out.later N5.out); have Bn := Lib.hid (Below.via N5.out B3.out (by omega)); obtain ⟨⟨r0, r1, r2, r3, r4, r5, r6, r7, r8⟩, ⟨f0, f1, f2, f3, f4, f5, f6, f7, f8⟩, hrl⟩ := blk9 Rn1.out; obtain ⟨⟨s0, s1, s2, s3⟩, ⟨t0, t1, t2, t3⟩, hsl⟩ := blk4 Rn2.out; clear hwn x0 x1 x2 x3 x4 x5 x6 x7 x8)
      (try simp only [Exit.inBlock, Exit.then])
      clear r0 r1 r2 r3 r4 r5 r6 r7 r8 f0 f1 f2 f3 f4 f5 f6 f7 f8 s0 s1 s2 s3 t0 t1 t2 t3
      have F1 : Blk (((((((((wn.setCell ⟨w.heap.size, 0, none⟩ (.int .i64 3)).setCell ⟨w.heap.size, 1, none⟩ (.int .i64 2)).setCell ⟨w.heap.size, 2, none⟩ (.bool false)).setCell ⟨w.heap.size, 3, none⟩ (.bool false)).setCell ⟨w.heap.size, 4, none⟩ (.bool false)).setCell ⟨w.heap.size, 5, none⟩ (.bool true)).setCell ⟨w.heap.size, 6, none⟩ (.bool false)).setCell ⟨w.heap.size, 7, none⟩ (.int .i64 1)).setCell ⟨w.heap.size, 8, none⟩ (.int .i64 0)) w.heap.size 25 #[.int .i64 3, .int .i64 2, .bool false, .bool false, .bool false, .bool true, .bool false, .int .i64 1, .int .i64 0] := st9_blk Rn1.out
      have F2 : Blk (((((((((((((wn.setCell ⟨w.heap.size, 0, none⟩ (.int .i64 3)).setCell ⟨w.heap.size, 1, none⟩ (.int .i64 2)).setCell ⟨w.heap.size, 2, none⟩ (.bool false)).setCell ⟨w.heap.size, 3, none⟩ (.bool false)).setCell ⟨w.heap.size, 4, none⟩ (.bool false)).setCell ⟨w.heap.size, 5, none⟩ (.bool true)).setCell ⟨w.heap.size, 6, none⟩ (.bool false)).setCell ⟨w.heap.size, 7, none⟩ (.int .i64 1)).setCell ⟨w.heap.size, 8, none⟩ (.int .i64 0)).setCell ⟨w.heap.size + 1, 0, none⟩ (.slice (some ⟨w3.heap.size, 0, none⟩) 6 6)).setCell ⟨w.heap.size + 1, 1, none⟩ (.slice (some ⟨w3.heap.size + 1, 0, none⟩) 2 2)).setCell ⟨w.heap.size + 1, 2, none⟩ (.int .i64 3)).setCell ⟨w.heap.size + 1, 3, none⟩ (.int .i64 1)) w.heap.size 25 #[.int .i64 3, .int .i64 2, .bool false, .bool false, .bool false, .bool true, .bool false, .int .i64 1, .int .i64 0] := (blk_setF (blk_setF (blk_setF (blk_setF F1 hne1) hne1) hne1) hne1)
      have F3 : Blk (((((((((((((wn.setCell ⟨w.heap.size, 0, none⟩ (.int .i64 3)).setCell ⟨w.heap.size, 1, none⟩ (.int .i64 2)).setCell ⟨w.heap.size, 2, none⟩ (.bool false)).setCell ⟨w.heap.size, 3, none⟩ (.bool false)).setCell ⟨w.heap.size, 4, none⟩ (.bool false)).setCell ⟨w.heap.size, 5, none⟩ (.bool true)).setCell ⟨w.heap.size, 6, none⟩ (.bool false)).setCell ⟨w.heap.size, 7, none⟩ (.int .i64 1)).setCell ⟨w.heap.size, 8, none⟩ (.int .i64 0)).setCell ⟨w.heap.size + 1, 0, none⟩ (.slice (some ⟨w3.heap.size, 0, none⟩) 6 6)).setCell ⟨w.heap.size + 1, 1, none⟩ (.slice (some ⟨w3.heap.size + 1, 0, none⟩) 2 2)).setCell ⟨w.heap.size + 1, 2, none⟩ (.int .i64 3)).setCell ⟨w.heap.size + 1, 3, none⟩ (.int .i64 1)) (w.heap.size + 1) 28 #[.slice (some ⟨w3.heap.size, 0, none⟩) 6 6, .slice (some ⟨w3.heap.size + 1, 0, none⟩) 2 2, .int .i64 3, .int .i64 1] := st4_blk (blk_setF (blk_setF (blk_setF (blk_setF (blk_setF (blk_setF (blk_setF (blk_setF (blk_setF Rn2.out hne2) hne2) hne2) hne2) hne2) hne2) hne2) hne2) hne2)
      have hq1 : w3.heap.size ≠ w.heap.size := by omega
      have hq2 : w3.heap.size ≠ w.heap.size + 1 := by omega
      have hq3 : w3.heap.size + 1 ≠ w.heap.size := by omega
      have hq4 : w3.heap.size + 1 ≠ w.heap.size + 1 := by omega
      obtain ⟨wz, hwz⟩ : ∃ X_, X_ = (((((((((((((wn.setCell ⟨w.heap.size, 0, none⟩ (.int .i64 3)).setCell ⟨w.heap.size, 1, none⟩ (.int .i64 2)).setCell ⟨w.heap.size, 2, none⟩ (.bool false)).setCell ⟨w.heap.size, 3, none⟩ (.bool false)).setCell ⟨w.heap.size, 4, none⟩ (.bool false)).setCell ⟨w.heap.size, 5, none⟩ (.bool true)).setCell ⟨w.heap.size, 6, none⟩ (.bool false)).setCell ⟨w.heap.size, 7, none⟩ (.int .i64 1)).setCell ⟨w.heap.size, 8, none⟩ (.int .i64 0)).setCell ⟨w.heap.size + 1, 0, none⟩ (.slice (some ⟨w3.heap.size, 0, none⟩) 6 6)).setCell ⟨w.heap.size + 1, 1, none⟩ (.slice (some ⟨w3.heap.size + 1, 0, none⟩) 2 2)).setCell ⟨w.heap.size + 1, 2, none⟩ (.int .i64 3)).setCell ⟨w.heap.size + 1, 3, none⟩ (.int .i64 1)) := ⟨_, rfl⟩
      have E1 : Blk wz w.heap.size 25 #[.int .i64 3, .int .i64 2, .bool false, .bool false, .bool false, .bool true, .bool false, .int .i64 1, .int .i64 0] := by rw [hwz]; exact F2
      have E2 : Blk wz (w.heap.size + 1) 28 #[.slice (some ⟨w3.heap.size, 0, none⟩) 6 6, .slice (some ⟨w3.heap.size + 1, 0, none⟩) 2 2, .int .i64 3, .int .i64 1] := by rw [hwz]; exact F3
      have E3 : Blk wz w3.heap.size 2 #[.int .i64 1, .int .i64 0, .int .i64 0, .int .i64 2, .int .i64 0, .int .i64 1] := by
        rw [hwz]
        (repeat (first | (with_reducible refine blk_setF ?_ hq1) | (with_reducible refine blk_setF ?_ hq2))); with_reducible exact O5.out
      have E4 : Blk wz (w3.heap.size + 1) 2 #[.int .i64 0, .int .i64 0] := by
        rw [hwz]
        (repeat (first | (with_reducible refine blk_setF ?_ hq3) | (with_reducible refine blk_setF ?_ hq4))); with_reducible exact U5.out
      have hgw1 : w.heap.size ≤ w.heap.size := Nat.le_refl _
      have hgw2 : w.heap.size ≤ w.heap.size + 1 := Nat.le_succ _
      have E6 : Below w.heap.size w wz := by
        rw [hwz]
        (repeat (first | (with_reducible refine Below.setCell ?_ hgw1 _) | (with_reducible refine Below.setCell ?_ hgw2 _))); exact Bn.out
      have E1 := Lib.hid E1
      have E2 := Lib.hid E2
      have E3 := Lib.hid E3
      have E4 := Lib.hid E4
      have E6 := Lib.hid E6
      rw [← hwz]
      clear hwz F1 F2 F3
      obtain ⟨⟨z0, z1, z2, z3, z4, z5, z6, z7, z8⟩, _, _⟩ := blk9 E1.out
      obtain ⟨⟨y0, y1, y2, y3⟩, _, _⟩ := blk4 E2.out
      refine bodyPost_ret (by simp [results, Try.results5, go_sem, z0, z1, z2, z3, z4, z5, z6, z7, z8, y0, y1, y2, y3]; try rfl) rfl ?_
      exact ⟨⟨3, 2, false, false, false, true, false, 1, 0⟩, _, _, 6, 6, 2, ⟨[1, 0, 0, 2, 0, 1], [0, 0], 3, 1⟩, 0, rfl, mini_ok, by omega, by omega, by omega, OwnV.sl (g := w3.heap.size) (t := 2) ⟨rfl, fun _ => ⟨rfl, [], by simpa using E3.out⟩⟩, OwnV.sl (g := w3.heap.size + 1) (t := 2) ⟨rfl, fun _ => ⟨rfl, [], by simpa using E4.out⟩⟩, E6.out⟩
end Go.Proofs.Ytcfbihponecblaa
/- Captures: what is taken, by the program. Conditions: lengths below 2^20. -/
namespace Go.Proofs.Ytcfbihponecblaa
set_option linter.unusedSimpArgs false
set_option linter.unusedVariables false
open Go.RowKit

/-- The pits that are taken backwards, below a place. -/
def runL (P : Nat) (pl : Int) (zs : List Int) : Nat → List Int
  | 0 => []
  | j + 1 => if ownI P j != pl && inB (zs.getD j 0) 2 3 then (j : Int) :: runL P pl zs j else []
/-- What is taken behind the last pit k. -/
def takenK (P : Nat) (pl ca : Int) (zs : List Int) (k : Nat) : List Int :=
  if ca = 1 then runL P pl zs (k + 1)
  else if ca = 2 then (if ownI P k = pl ∧ zs.getD k 0 = 1 ∧ 0 < zs.getD (2 * P - 1 - k) 0 then [(k : Int), ((2 * P - 1 - k : Nat) : Int)] else [])
  else if ca = 3 then (if ownI P k ≠ pl ∧ (zs.getD k 0).tmod 2 = 0 then [(k : Int)] else [])
  else []
def inPits (P : Nat) (l : List Int) : Prop := l.length ≤ 2 * P ∧ ∀ j, j < l.length → ∃ m : Nat, l.getD j 0 = (m : Int) ∧ m < 2 * P
theorem runL_in {P : Nat} {pl : Int} {zs : List Int} : ∀ k, (runL P pl zs k).length ≤ k ∧ ∀ x ∈ runL P pl zs k, ∃ m : Nat, x = (m : Int) ∧ m < k := by
  intro k
  induction k with
  | zero => exact ⟨Nat.le_refl _, fun x hx => by simp [runL] at hx⟩
  | succ k ih =>
    rw [runL]
    split
    · refine ⟨by simp; exact ih.1, fun x hx => ?_⟩
      rcases List.mem_cons.1 hx with rfl | hx
      · exact ⟨k, rfl, by omega⟩
      · obtain ⟨m, e, h⟩ := ih.2 x hx
        exact ⟨m, e, by omega⟩
    · exact ⟨by simp, fun x hx => by simp at hx⟩
theorem inPits_of {P : Nat} {l : List Int} (h1 : l.length ≤ 2 * P) (h2 : ∀ x ∈ l, ∃ m : Nat, x = (m : Int) ∧ m < 2 * P) : inPits P l := ⟨h1, fun j hj => h2 _ (getD_mem 0 hj)⟩
theorem takenK_in {P : Nat} {pl ca : Int} {zs : List Int} {k : Nat} (h2 : 2 ≤ P) (hk : k < 2 * P) : inPits P (takenK P pl ca zs k) := by
  refine inPits_of ?_ ?_
  · unfold takenK
    have := (runL_in (P := P) (pl := pl) (zs := zs) (k + 1)).1
    repeat' split
    all_goals (try simp)
    all_goals omega
  · unfold takenK
    intro x hx
    split at hx
    · obtain ⟨m, e, h⟩ := (runL_in (P := P) (pl := pl) (zs := zs) (k + 1)).2 x hx
      exact ⟨m, e, by omega⟩
    · split at hx
      · split at hx
        · simp at hx
          rcases hx with rfl | rfl
          · exact ⟨k, rfl, hk⟩
          · exact ⟨2 * P - 1 - k, rfl, by omega⟩
        · simp at hx
      · split at hx
        · split at hx
          · simp at hx
            exact ⟨k, hx, hk⟩
          · simp at hx
        · simp at hx
theorem inPits_nil (P : Nat) : inPits P [] := ⟨by simp, fun j hj => absurd hj (by simp)⟩
/-- A list of the call's own. -/
def TkPost (l : List Int) (w : World) (e : Ending) (w' : World) : Prop :=
  ∃ (A : Option Addr) (g cap : Nat), e = .returned (.slice A l.length cap) ∧ w.heap.size ≤ g ∧ l.length ≤ cap ∧ cap ≤ maxLen ∧ OwnV w' g 2 1 A l.length (l.map (Value.int .i64)) ∧ Below w.heap.size w w'
theorem info_int64t : (Try.prog.info? 2).map (fun i => (i.zero, i.size, i.bytes)) = some (some (.int .i64 0), 1, 8) := by kernel_rfl
/-- The two boxes of a call over rules and seeds. -/
theorem caps_at (w : World) (r : Ru) (v1 v2 v3 v4 : Value) (t t' : TypeId) {W : World} (hb : Below ((w.alloc (.cells #[.int .i64 r.p, .int .i64 r.s, .bool r.st, .bool r.sk, .bool r.re, .bool r.fe, .bool r.ag, .int .i64 r.ca, .int .i64 r.sl] t)).alloc (.cells #[v1, v2, v3, v4] t')).heap.size ((w.alloc (.cells #[.int .i64 r.p, .int .i64 r.s, .bool r.st, .bool r.sk, .bool r.re, .bool r.fe, .bool r.ag, .int .i64 r.ca, .int .i64 r.sl] t)).alloc (.cells #[v1, v2, v3, v4] t')) W) :
    (W.cell? ⟨w.heap.size, 0, none⟩ = some (.int .i64 r.p) ∧ W.cell? ⟨w.heap.size, 1, none⟩ = some (.int .i64 r.s) ∧ W.cell? ⟨w.heap.size, 2, none⟩ = some (.bool r.st) ∧ W.cell? ⟨w.heap.size, 3, none⟩ = some (.bool r.sk) ∧ W.cell? ⟨w.heap.size, 4, none⟩ = some (.bool r.re) ∧ W.cell? ⟨w.heap.size, 5, none⟩ = some (.bool r.fe) ∧ W.cell? ⟨w.heap.size, 6, none⟩ = some (.bool r.ag) ∧ W.cell? ⟨w.heap.size, 7, none⟩ = some (.int .i64 r.ca) ∧ W.cell? ⟨w.heap.size, 8, none⟩ = some (.int .i64 r.sl)) ∧
    (W.cell? ⟨w.heap.size + 1, 0, none⟩ = some v1 ∧ W.cell? ⟨w.heap.size + 1, 1, none⟩ = some v2 ∧ W.cell? ⟨w.heap.size + 1, 2, none⟩ = some v3 ∧ W.cell? ⟨w.heap.size + 1, 3, none⟩ = some v4) ∧ Below w.heap.size w W := by
  have RA := ((RuAt.box w t r).later (boxed_ _ (.cells #[v1, v2, v3, v4] t'))).later hb
  have PK := (Blk.new (w.alloc (.cells #[.int .i64 r.p, .int .i64 r.s, .bool r.st, .bool r.sk, .bool r.re, .bool r.fe, .bool r.ag, .int .i64 r.ca, .int .i64 r.sl] t)) t' #[v1, v2, v3, v4]).later hb
  rw [World.size_alloc] at PK
  exact ⟨⟨RA.c0, RA.c1, RA.c2, RA.c3, RA.c4, RA.c5, RA.c6, RA.c7, RA.c8⟩, ⟨PK.cell 0, PK.cell 1, PK.cell 2, PK.cell 3⟩, below_boxed (below_boxed hb)⟩

theorem row_made0 {W : World} {g base : Nat} {e : TypeId} (hg : g = W.heap.size) (hb : base ≤ g) : (W.alloc (.cells #[] e)).ownsRow base e 1 (.slice (some ⟨g, 0, none⟩) 0 0) 0 [] := by
  subst hg
  exact World.ownsRow_made _ _ 0 hb (Nat.zero_le _) rfl
set_option maxRecDepth 100000 in
set_option maxHeartbeats 2000000 in
theorem taken_1 (r : Ru) (P k : Nat) (pl : Int) (zs : List Int) (A1 A2 : Option Addr) (n1 c1 n2 c2 : Nat) (laps : Int) (l : List Int) (w : World) (s1 : Sl w w.heap.size 1 A1 n1 (zs.map (Value.int .i64))) (hP : r.p = (P : Int)) (h2 : 2 ≤ P) (h8 : P ≤ 8) (hn : n1 = 2 * P) (hk : k < 2 * P) (hca : r.ca = 1) (hl : runL P pl zs (k + 1) = l) :
    Calls Try.prog 32 #[.agg #[.int .i64 r.p, .int .i64 r.s, .bool r.st, .bool r.sk, .bool r.re, .bool r.fe, .bool r.ag, .int .i64 r.ca, .int .i64 r.sl], .agg #[.slice A1 n1 c1, .slice A2 n2 c2, .int .i64 k, .int .i64 laps], .int .i64 pl] w (TkPost l w) := by
  have HP := Lib.hid hP
  have HL := Lib.hid hl
  have S1 := Lib.hid s1
  have hca1 : (r.ca == 1) = true := beq_iff_eq.2 hca
  subst hn
  clear hP hl s1 hca
  obtain ⟨o, ho⟩ : ∃ o, ownI P k = o := ⟨_, rfl⟩
  have HO := Lib.hid ho
  clear ho
  obtain ⟨i0, ti, tz0, tz1, tz2⟩ := info_parts info_int64t
  go_enter Try.func32, Try.ntmps32
  go_wp2_with (go_at_call 34; refine (owner_lit r P k o _ HP.out h2 h8 hk HO.out).mono ?_; rintro e w_ ⟨rfl, rfl⟩)
  go_loopw [7, 9] (fun v i wr => ∃ (j : Nat) (acc : List Int), j ≤ k + 1 ∧ i = .int .i64 ((j : Int) - 1) ∧ wr.ownsRow (w.heap.size + 2) 2 1 v acc.length (acc.map (Value.int .i64)) ∧ Hid (acc ++ runL P pl zs j = l) ∧ acc.length + j ≤ 2 * P ∧ Below ((w.alloc (.cells #[.int .i64 r.p, .int .i64 r.s, .bool r.st, .bool r.sk, .bool r.re, .bool r.fe, .bool r.ag, .int .i64 r.ca, .int .i64 r.sl] 25)).alloc (.cells #[.slice A1 (2 * P) c1, .slice A2 n2 c2, .int .i64 k, .int .i64 laps] 28)).heap.size ((w.alloc (.cells #[.int .i64 r.p, .int .i64 r.s, .bool r.st, .bool r.sk, .bool r.re, .bool r.fe, .bool r.ag, .int .i64 r.ca, .int .i64 r.sl] 25)).alloc (.cells #[.slice A1 (2 * P) c1, .slice A2 n2 c2, .int .i64 k, .int .i64 laps] 28)) wr) (fun _ i _ => (intOf i + 1).toNat)
  case atStart =>
    refine ⟨k + 1, [], Nat.le_refl _, by rw [show ((k + 1 : Nat) : Int) - 1 = k from by omega], (row_made0 ?_ (Nat.le_refl _)).alloc _, HL, by simp only [List.length_nil]; omega, by (repeat' (first | (with_reducible exact Below.refl _ _) | (with_reducible assumption) | (with_reducible refine Below.alloc ?_ ?_ _) | (with_reducible refine Below.drew ?_) | (with_reducible refine belowDrewN ?_ _) | (with_reducible refine Below.setCell ?_ ?_ _) | (with_reducible refine Below.via (by with_reducible assumption) ?_ ?_) | (with_reducible refine Below.viaD (by with_reducible assumption) ?_ ?_) | (with_reducible exact Below.size (by with_reducible assumption)) | go_size | (with_reducible refine Nat.le_trans ?_ (Below.size (by with_reducible assumption))) | (with_reducible refine Nat.le_trans ?_ (sizeAlloc _ _)) | (with_reducible refine Nat.le_trans ?_ (sizeSet _ _ _)) | (with_reducible refine Nat.le_trans ?_ (sizeDrew _))))⟩
    simp
  case round =>
    obtain ⟨j, acc, hj, rfl, hown, HA, hlen, hbl⟩ := hrel
    obtain ⟨⟨e0, e1, e2, e3, e4, e5, e6, e7, e8⟩, ⟨d0, d1, d2, d3⟩, hBw⟩ := caps_at w r _ _ _ _ _ _ hbl
    have HOW := Lib.hid hown
    have HBL := Lib.hid hbl
    have hbs := hbl.size
    simp only [World.size_alloc] at hbs
    have hlt0 : w.heap.size < wr.heap.size := by omega
    have hlt1 : w.heap.size + 1 < wr.heap.size := by omega
    clear hown hbl
    rcases j with _ | m
    · have hneg : ¬ (0 : Int) ≤ ((0 : Nat) : Int) - 1 := by omega
      have hA : acc = l := by have := HA.out; rw [runL, List.append_nil] at this; exact this
      subst hA
      obtain ⟨A', g, cap, rfl, hg, hnc, hcm, ho'⟩ := own_of_row HOW.out
      go_wp2_with fail
      go_ret
      exact ⟨A', g, cap, rfl, by omega, hnc, hcm, ho', hBw⟩
    · have hm : ((m + 1 : Nat) : Int) - 1 = (m : Int) := by omega
      rw [hm]
      obtain ⟨b, off, z, rfl, hb, HZ, hc⟩ := (S1.out.later hBw).int (k := m) (by omega)
      obtain ⟨o', ho'⟩ : ∃ o', ownI P m = o' := ⟨_, rfl⟩
      have HO' := Lib.hid ho'
      have HR : Hid (runL P pl zs (m + 1) = if o' != pl && inB z 2 3 then (m : Int) :: runL P pl zs m else []) := by unfold Hid; rw [runL, ho', HZ.out]
      clear ho'
      have hmk : m < 2 * P := by omega
      cases q1 : (o' == pl)
      case true =>
        have q1' : (o' != pl) = false := by rw [bne, q1]; rfl
        have hA : acc = l := by have := HA.out; rw [HR.out, q1'] at this; simpa using this
        subst hA
        obtain ⟨A', g, cap, rfl, hg, hnc, hcm, ho'⟩ := own_of_row HOW.out
        go_wp2_with (go_at_call 34; refine (owner_lit r P m o' _ HP.out h2 h8 hmk HO'.out).mono ?_; rintro e w_ ⟨rfl, rfl⟩)
        go_ret
        exact ⟨A', g, cap, rfl, by omega, hnc, hcm, ho'.later (boxed_ _ _), by (repeat' (first | (with_reducible exact Below.refl _ _) | (with_reducible assumption) | (with_reducible refine Below.alloc ?_ ?_ _) | (with_reducible refine Below.drew ?_) | (with_reducible refine belowDrewN ?_ _) | (with_reducible refine Below.setCell ?_ ?_ _) | (with_reducible refine Below.via (by with_reducible assumption) ?_ ?_) | (with_reducible refine Below.viaD (by with_reducible assumption) ?_ ?_) | (with_reducible exact Below.size (by with_reducible assumption)) | go_size | (with_reducible refine Nat.le_trans ?_ (Below.size (by with_reducible assumption))) | (with_reducible refine Nat.le_trans ?_ (sizeAlloc _ _)) | (with_reducible refine Nat.le_trans ?_ (sizeSet _ _ _)) | (with_reducible refine Nat.le_trans ?_ (sizeDrew _))))⟩
      case false =>
        have q1' : (o' != pl) = true := by rw [bne, q1]; rfl
        cases q2 : inB z 2 3
        case false =>
          have hA : acc = l := by have := HA.out; rw [HR.out, q1', q2] at this; simpa using this
          subst hA
          obtain ⟨A', g, cap, rfl, hg, hnc, hcm, ho'⟩ := own_of_row HOW.out
          go_wp2_with (first | (go_at_call 34; refine (owner_lit r P m o' _ HP.out h2 h8 hmk HO'.out).mono ?_; rintro e w_ ⟨rfl, rfl⟩) | (go_at_call 30; refine (between_any _ _ _ _).mono ?_; rintro e w_ ⟨rfl, rfl⟩))
          go_ret
          exact ⟨A', g, cap, rfl, by omega, hnc, hcm, ho'.later (boxed_ _ _), by (repeat' (first | (with_reducible exact Below.refl _ _) | (with_reducible assumption) | (with_reducible refine Below.alloc ?_ ?_ _) | (with_reducible refine Below.drew ?_) | (with_reducible refine belowDrewN ?_ _) | (with_reducible refine Below.setCell ?_ ?_ _) | (with_reducible refine Below.via (by with_reducible assumption) ?_ ?_) | (with_reducible refine Below.viaD (by with_reducible assumption) ?_ ?_) | (with_reducible exact Below.size (by with_reducible assumption)) | go_size | (with_reducible refine Nat.le_trans ?_ (Below.size (by with_reducible assumption))) | (with_reducible refine Nat.le_trans ?_ (sizeAlloc _ _)) | (with_reducible refine Nat.le_trans ?_ (sizeSet _ _ _)) | (with_reducible refine Nat.le_trans ?_ (sizeDrew _))))⟩
        case true =>
          have HA2 : Hid ((acc ++ [(m : Int)]) ++ runL P pl zs m = l) := by have := HA.out; rw [HR.out, q1', q2] at this; unfold Hid; simpa using this
          go_wp2_with (first | (go_at_call 34; refine (owner_lit r P m o' _ HP.out h2 h8 hmk HO'.out).mono ?_; rintro e w_ ⟨rfl, rfl⟩) | (go_at_call 30; refine (between_any _ _ _ _).mono ?_; rintro e w_ ⟨rfl, rfl⟩) | (at_builtin; refine wpList_append_sl _ rfl _ _ 26 rfl (w.heap.size + 2) 2 i0 _ 1 8 Try.underlying26 ti tz0 tz1 tz2 rfl (by decide) _ acc.length (acc.map (Value.int .i64)) rfl ((HOW.out.alloc _).alloc _) (wr.heap.size + 2) _ 1 1 [.int .i64 m] rfl (Sl.built (by simp) (by simp) rfl) ?c1 ?c2 ?c3 ?c4 ?_))
          case c1 => intro u hu; simp at hu; subst hu; rfl
          case c2 => unfold maxLen; omega
          case c3 => omega
          case c4 => simp; omega
          intro v' w1 hown1 hg1 _
          have hbn : Below ((w.alloc (.cells #[.int .i64 r.p, .int .i64 r.s, .bool r.st, .bool r.sk, .bool r.re, .bool r.fe, .bool r.ag, .int .i64 r.ca, .int .i64 r.sl] 25)).alloc (.cells #[.slice (some ⟨b, off, none⟩) (2 * P) c1, .slice A2 n2 c2, .int .i64 k, .int .i64 laps] 28)).heap.size ((w.alloc (.cells #[.int .i64 r.p, .int .i64 r.s, .bool r.st, .bool r.sk, .bool r.re, .bool r.fe, .bool r.ag, .int .i64 r.ca, .int .i64 r.sl] 25)).alloc (.cells #[.slice (some ⟨b, off, none⟩) (2 * P) c1, .slice A2 n2 c2, .int .i64 k, .int .i64 laps] 28)) w1 := below_app (by have := HBL.out; (repeat' (first | (with_reducible exact Below.refl _ _) | (with_reducible assumption) | (with_reducible refine Below.alloc ?_ ?_ _) | (with_reducible refine Below.drew ?_) | (with_reducible refine belowDrewN ?_ _) | (with_reducible refine Below.setCell ?_ ?_ _) | (with_reducible refine Below.via (by with_reducible assumption) ?_ ?_) | (with_reducible refine Below.viaD (by with_reducible assumption) ?_ ?_) | (with_reducible exact Below.size (by with_reducible assumption)) | go_size | (with_reducible refine Nat.le_trans ?_ (Below.size (by with_reducible assumption))) | (with_reducible refine Nat.le_trans ?_ (sizeAlloc _ _)) | (with_reducible refine Nat.le_trans ?_ (sizeSet _ _ _)) | (with_reducible refine Nat.le_trans ?_ (sizeDrew _))))) ((HOW.out.alloc _).alloc _) hg1 (by simp) (by simp; omega)
          have HO1 := Lib.hid hown1
          clear hown1 hg1
          go_wp2_with fail
          go_roundw
          case rel => exact ⟨m, acc ++ [(m : Int)], by omega, by go_num, by rw [List.length_append, List.map_append]; exact HO1.out, HA2, by simp; omega, hbn⟩
          case measure => first | (simp [intOf]; done) | (simp [intOf]; omega)
end Go.Proofs.Ytcfbihponecblaa
