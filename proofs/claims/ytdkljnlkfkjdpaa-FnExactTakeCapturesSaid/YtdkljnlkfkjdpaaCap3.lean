/- Captures: valid seeds after sowing, by the reference. Conditions: lengths below 2^20. -/
import Derived.Test.YtdkljnlkfkjdpaaCap2
import Derived.StillTailTactics
namespace Go.Proofs.Ytdkljnlkfkjdpaa
set_option linter.unusedSimpArgs false
set_option linter.unusedVariables false
open Go.RowKit

/-- Seeds after sowing that lie at a place. -/
structure SownAt (w : World) (b o : Nat) (A1 : Option Addr) (n1 c1 : Nat) (A2 : Option Addr) (n2 c2 : Nat) (d : SownD) : Prop where
  c0 : w.cell? ⟨b, o, none⟩ = some (.slice A1 n1 c1)
  c1 : w.cell? ⟨b, o + 1, none⟩ = some (.slice A2 n2 c2)
  c2 : w.cell? ⟨b, o + 2, none⟩ = some (.int .i64 d.last)
  c3 : w.cell? ⟨b, o + 3, none⟩ = some (.int .i64 d.laps)
  s1 : Sl w w.heap.size 1 A1 n1 (d.pits.map (Value.int .i64))
  s2 : Sl w w.heap.size 1 A2 n2 (d.stores.map (Value.int .i64))
theorem SownAt.later {w w' : World} {b o : Nat} {A1 A2 : Option Addr} {n1 c1 n2 c2 : Nat} {d : SownD} (h : SownAt w b o A1 n1 c1 A2 n2 c2 d) (hb : Below w.heap.size w w') : SownAt w' b o A1 n1 c1 A2 n2 c2 d := by
  have hl := cell_lt h.c0
  exact ⟨(hb.cell (p := ⟨b, o, none⟩) hl).trans h.c0, (hb.cell (p := ⟨b, o + 1, none⟩) hl).trans h.c1, (hb.cell (p := ⟨b, o + 2, none⟩) hl).trans h.c2, (hb.cell (p := ⟨b, o + 3, none⟩) hl).trans h.c3, h.s1.later hb, h.s2.later hb⟩
theorem SownAt.drewN {w : World} {b o : Nat} {A1 A2 : Option Addr} {n1 c1 n2 c2 : Nat} {d : SownD} (h : SownAt w b o A1 n1 c1 A2 n2 c2 d) (k : Nat) : SownAt (w.drewN k) b o A1 n1 c1 A2 n2 c2 d := ⟨h.c0, h.c1, h.c2, h.c3, h.s1.drewN k, h.s2.drewN k⟩
theorem okPos_pl {r : Ru} {zs zs' : List Int} {pl : Int} (h : inB pl 0 1 = true) : okPos r ⟨zs, zs', pl⟩ = okPos r ⟨zs, zs', 0⟩ := by
  unfold okPos
  rw [h]
  rfl
theorem quiet_at {P : Program} {f : FuncId} {args : Array Value} {w : World} {c k : Nat} {v : Value}
    (h : Calls P f args (w.drewN (c + k)) fun e w' => e = .returned v ∧ w.drewN (c + k) = w') : Calls P f args (w.drewN (c + k)) fun e w'' => e = .returned v ∧ ∃ n, w'' = w.drewN (c + n) :=
  h.mono fun _ _ ⟨he, hm⟩ => ⟨he, k, hm.symm⟩
set_option maxRecDepth 100000 in
set_option maxHeartbeats 1000000 in
theorem l06Ok_any (r : Ru) (b o b2 o2 : Nat) (A1 A2 : Option Addr) (n1 c1 n2 c2 : Nat) (d : SownD) (pl : Int) (q : Bool) (w : World) (hr : RuAt w b o r) (hs : SownAt w b2 o2 A1 n1 c1 A2 n2 c2 d) (hsz : szSown d ≤ 1048576) (hq : okSown r d pl = q) :
    Calls Try.prog 29 #[.pointer (some ⟨b, o, none⟩), .pointer (some ⟨b2, o2, none⟩), .int .i64 pl] w fun e w' => e = .returned (.bool q) ∧ Below w.heap.size w w' := by
  obtain ⟨p0, p1, p2, p3, s1, s2⟩ := hs
  have hl0 := cell_lt p0
  have HR := Lib.hid hr
  have HQ := Lib.hid hq
  have S1 := Lib.hid s1
  have S2 := Lib.hid s2
  have hsz' : szPosition ⟨d.pits, d.stores, 0⟩ ≤ 1048576 := hsz
  clear hq s1 s2 hr
  have HP : Hid (∀ t, PosAt (w.alloc (.cells #[.slice A1 n1 c1, .slice A2 n2 c2, .int .i64 0] t)) w.heap.size 0 A1 n1 c1 A2 n2 c2 ⟨d.pits, d.stores, 0⟩) := fun t =>
    have K := Blk.new w t #[.slice A1 n1 c1, .slice A2 n2 c2, .int .i64 0]
    ⟨K.cell 0, K.cell 1, K.cell 2, S1.out.later (boxed_ _ _), S2.out.later (boxed_ _ _)⟩
  have hr0 := HR.out.c0
  have hr2 := HR.out.c2
  have hlr := cell_lt hr0
  cases g2 : okPos r ⟨d.pits, d.stores, 0⟩
  all_goals have G2 := Lib.hid g2
  all_goals clear g2
  case false =>
    obtain rfl : q = false := by
      rw [← HQ.out]
      cases g1 : inB pl 0 1
      · exact okSown_1 g1
      · exact okSown_2 ((okPos_pl g1).trans G2.out)
    clear hr0 hr2
    go_enter Try.func29, Try.ntmps29
    go_wp2_with fail
    go_region
    go_wp2_with fail
    with_reducible refine Calls.mono (l04Ok_quiet r b o w.heap.size 0 A1 A2 n1 c1 n2 c2 ⟨d.pits, d.stores, 0⟩ _ ?_ ?_ hsz') ?_
    · exact (HR.out.later (boxed_ _ _)).drew
    · exact (HP.out _).drewN 1
    rw [G2.out]
    rintro e w1 ⟨rfl, m, rfl⟩
    go_wp2_with fail
    go_ret
    exact ⟨rfl, by (repeat' (first | (with_reducible exact Below.refl _ _) | (with_reducible assumption) | (with_reducible refine Below.alloc ?_ ?_ _) | (with_reducible refine Below.drew ?_) | (with_reducible refine belowDrewN ?_ _) | (with_reducible refine Below.setCell ?_ ?_ _) | (with_reducible refine Below.via (by with_reducible assumption) ?_ ?_) | (with_reducible refine Below.viaD (by with_reducible assumption) ?_ ?_) | (with_reducible exact Below.size (by with_reducible assumption)) | go_size | (with_reducible refine Nat.le_trans ?_ (Below.size (by with_reducible assumption))) | (with_reducible refine Nat.le_trans ?_ (sizeAlloc _ _)) | (with_reducible refine Nat.le_trans ?_ (sizeSet _ _ _)) | (with_reducible refine Nat.le_trans ?_ (sizeDrew _))))⟩
  case true =>
    obtain ⟨P, p, hP, h2, h8, hn, hn', hd0, _, ho, ho', _⟩ := okPos_of G2.out
    clear hd0
    simp only at hn hn'
    have HPP := Lib.hid hP
    rw [hP] at hr0
    have hn1 : n1 = 2 * P := by have := S1.out.ints; omega
    have hn2 : n2 = 2 := by have := S2.out.ints; omega
    clear hP hn hn'
    subst hn1 hn2
    cases g1 : inB pl 0 1
    case false =>
      obtain rfl : q = false := by rw [← HQ.out]; exact okSown_1 g1
      go_enter Try.func29, Try.ntmps29
      go_wp2_with fail
      go_region
      go_wp2_with fail
      with_reducible refine Calls.mono (l04Ok_quiet r b o w.heap.size 0 A1 A2 (2 * P) c1 2 c2 ⟨d.pits, d.stores, 0⟩ _ ?_ ?_ hsz') ?_
      · exact (HR.out.later (boxed_ _ _)).drew
      · exact (HP.out _).drewN 1
      rw [G2.out]
      rintro e w1 ⟨rfl, m, rfl⟩
      go_wp2_with (go_at_call 44; refine (l00In_any _ _ _ _).mono ?_; rintro e w_ ⟨rfl, rfl⟩)
      go_ret
      exact ⟨rfl, by (repeat' (first | (with_reducible exact Below.refl _ _) | (with_reducible assumption) | (with_reducible refine Below.alloc ?_ ?_ _) | (with_reducible refine Below.drew ?_) | (with_reducible refine belowDrewN ?_ _) | (with_reducible refine Below.setCell ?_ ?_ _) | (with_reducible refine Below.via (by with_reducible assumption) ?_ ?_) | (with_reducible refine Below.viaD (by with_reducible assumption) ?_ ?_) | (with_reducible exact Below.size (by with_reducible assumption)) | go_size | (with_reducible refine Nat.le_trans ?_ (Below.size (by with_reducible assumption))) | (with_reducible refine Nat.le_trans ?_ (sizeAlloc _ _)) | (with_reducible refine Nat.le_trans ?_ (sizeSet _ _ _)) | (with_reducible refine Nat.le_trans ?_ (sizeDrew _))))⟩
    case true =>
      cases g3 : inB d.laps 1 100
      case false =>
        obtain rfl : q = false := by rw [← HQ.out]; exact okSown_3 g3
        go_enter Try.func29, Try.ntmps29
        go_wp2_with fail
        go_region
        go_wp2_with fail
        with_reducible refine Calls.mono (l04Ok_quiet r b o w.heap.size 0 A1 A2 (2 * P) c1 2 c2 ⟨d.pits, d.stores, 0⟩ _ ?_ ?_ hsz') ?_
        · exact (HR.out.later (boxed_ _ _)).drew
        · exact (HP.out _).drewN 1
        rw [G2.out]
        rintro e w1 ⟨rfl, m, rfl⟩
        go_wp2_with (go_at_call 44; refine (l00In_any _ _ _ _).mono ?_; rintro e w_ ⟨rfl, rfl⟩)
        go_ret
        exact ⟨rfl, by (repeat' (first | (with_reducible exact Below.refl _ _) | (with_reducible assumption) | (with_reducible refine Below.alloc ?_ ?_ _) | (with_reducible refine Below.drew ?_) | (with_reducible refine belowDrewN ?_ _) | (with_reducible refine Below.setCell ?_ ?_ _) | (with_reducible refine Below.via (by with_reducible assumption) ?_ ?_) | (with_reducible refine Below.viaD (by with_reducible assumption) ?_ ?_) | (with_reducible exact Below.size (by with_reducible assumption)) | go_size | (with_reducible refine Nat.le_trans ?_ (Below.size (by with_reducible assumption))) | (with_reducible refine Nat.le_trans ?_ (sizeAlloc _ _)) | (with_reducible refine Nat.le_trans ?_ (sizeSet _ _ _)) | (with_reducible refine Nat.le_trans ?_ (sizeDrew _))))⟩
      case true =>
        have HQ2 := Lib.hid ((okSown_4 g1 ((okPos_pl g1).trans G2.out) g3).symm.trans HQ.out)
        obtain ⟨p', hp'⟩ := Int.eq_ofNat_of_zero_le (inB_of g1).1
        have hp2 : p' < 2 := by have := (inB_of g1).2; omega
        subst hp'
        by_cases g4 : d.last = -1
        case pos =>
          have g4b : (d.last == -1) = true := beq_iff_eq.2 g4
          have G4 := Lib.hid g4
          clear g4
          rcases Bool.eq_false_or_eq_true r.st with g5 | g5
          all_goals have G5 := Lib.hid g5
          all_goals clear g5
          all_goals
            go_enter Try.func29, Try.ntmps29
            go_wp2_with fail
            go_region
            go_wp2_with fail
            with_reducible refine Calls.mono (l04Ok_quiet r b o w.heap.size 0 A1 A2 (2 * P) c1 2 c2 ⟨d.pits, d.stores, 0⟩ _ ?_ ?_ hsz') ?_
            · exact (HR.out.later (boxed_ _ _)).drew
            · exact (HP.out _).drewN 1
            rw [G2.out]
            rintro e w1 ⟨rfl, m, rfl⟩
            obtain ⟨b3, off, z, rfl, hb, HZ, hc⟩ := S2.out.int (k := p') hp2
            have HQ3 : Hid ((r.st && decide (0 < z)) = q) := by
              unfold Hid
              rw [← HQ2.out, okLast, if_pos G4.out, Int.toNat_natCast, HZ.out]
            have g5 := G5.out
            go_wp2_with (go_at_call 44; refine (l00In_any _ _ _ _).mono ?_; rintro e w_ ⟨rfl, rfl⟩)
            all_goals
              have h9 := HQ3.out
              go_ret
              subst h9
              exact ⟨by simp [*], by (repeat' (first | (with_reducible exact Below.refl _ _) | (with_reducible assumption) | (with_reducible refine Below.alloc ?_ ?_ _) | (with_reducible refine Below.drew ?_) | (with_reducible refine belowDrewN ?_ _) | (with_reducible refine Below.setCell ?_ ?_ _) | (with_reducible refine Below.via (by with_reducible assumption) ?_ ?_) | (with_reducible refine Below.viaD (by with_reducible assumption) ?_ ?_) | (with_reducible exact Below.size (by with_reducible assumption)) | go_size | (with_reducible refine Nat.le_trans ?_ (Below.size (by with_reducible assumption))) | (with_reducible refine Nat.le_trans ?_ (sizeAlloc _ _)) | (with_reducible refine Nat.le_trans ?_ (sizeSet _ _ _)) | (with_reducible refine Nat.le_trans ?_ (sizeDrew _))))⟩
        case neg =>
          have g4b : (d.last == -1) = false := beq_eq_false_iff_ne.2 g4
          have hw1 : IntKind.i64.wrap (2 * (P : Int)) = 2 * (P : Int) := IntWalk.i64_in _ (by omega)
          have hw2 : IntKind.i64.wrap (2 * (P : Int) - 1) = 2 * (P : Int) - 1 := IntWalk.i64_in _ (by omega)
          cases g5 : inB d.last 0 (2 * (P : Int) - 1)
          case false =>
            obtain rfl : q = false := by rw [← HQ2.out, okLast, if_neg g4, HPP.out, g5]; rfl
            have G5 := Lib.hid g5
            clear g4
            go_enter Try.func29, Try.ntmps29
            go_wp2_with fail
            go_region
            go_wp2_with fail
            with_reducible refine Calls.mono (l04Ok_quiet r b o w.heap.size 0 A1 A2 (2 * P) c1 2 c2 ⟨d.pits, d.stores, 0⟩ _ ?_ ?_ hsz') ?_
            · exact (HR.out.later (boxed_ _ _)).drew
            · exact (HP.out _).drewN 1
            rw [G2.out]
            rintro e w1 ⟨rfl, m, rfl⟩
            go_wp2_with (go_at_call 44; refine (l00In_any _ _ _ _).mono ?_; rintro e w_ ⟨rfl, rfl⟩)
            first | (refine wp_region_quiet_lit (by kernel_rfl) (by kernel_rfl) ?_; refine WQ.of ?_; (repeat (refine WQ.step (fun K hK => ?_); go_simp; first | (refine hK _ ?_; clear hK K) | (apply Exists.intro; refine ⟨fun _ => ?_, hK _ ?_⟩; ((go_at_call 44; exact quiet_at (l00In_lit' G5.out _))); clear hK K))); refine WQ.nil ?_; intro _ hw'; obtain ⟨nq, hw''⟩ := hw'; subst hw'') | go_quiet ((go_at_call 44; exact quiet_at (l00In_lit' G5.out _)))
            go_wp2_with fail
            go_ret
            exact ⟨by first | rfl | simp [*], by (repeat' (first | (with_reducible exact Below.refl _ _) | (with_reducible assumption) | (with_reducible refine Below.alloc ?_ ?_ _) | (with_reducible refine Below.drew ?_) | (with_reducible refine belowDrewN ?_ _) | (with_reducible refine Below.setCell ?_ ?_ _) | (with_reducible refine Below.via (by with_reducible assumption) ?_ ?_) | (with_reducible refine Below.viaD (by with_reducible assumption) ?_ ?_) | (with_reducible exact Below.size (by with_reducible assumption)) | go_size | (with_reducible refine Nat.le_trans ?_ (Below.size (by with_reducible assumption))) | (with_reducible refine Nat.le_trans ?_ (sizeAlloc _ _)) | (with_reducible refine Nat.le_trans ?_ (sizeSet _ _ _)) | (with_reducible refine Nat.le_trans ?_ (sizeDrew _))))⟩
          case true =>
            obtain ⟨k, hk⟩ := Int.eq_ofNat_of_zero_le (inB_of g5).1
            have hk2 : k < 2 * P := by have := (inB_of g5).2; omega
            have HQ3 : Hid (decide (0 < d.pits.getD k 0) = q) := by
              unfold Hid
              rw [← HQ2.out, okLast, if_neg g4, HPP.out, g5, hk, Int.toNat_natCast]
              rfl
            clear g4
            obtain ⟨pits, stores, last, laps⟩ := d
            simp only at hk
            subst hk
            obtain ⟨b3, off, z, rfl, hb, HZ, hc⟩ := S1.out.int (k := k) hk2
            (try simp only at HZ)
            (try simp only at HQ3)
            rw [HZ.out] at HQ3
            have G5 := Lib.hid g5
            go_enter Try.func29, Try.ntmps29
            go_wp2_with fail
            go_region
            go_wp2_with fail
            with_reducible refine Calls.mono (l04Ok_quiet r b o w.heap.size 0 (some ⟨b3, off, none⟩) A2 (2 * P) c1 2 c2 ⟨pits, stores, 0⟩ _ ?_ ?_ hsz') ?_
            · exact (HR.out.later (boxed_ _ _)).drew
            · exact (HP.out _).drewN 1
            rw [G2.out]
            rintro e w1 ⟨rfl, m, rfl⟩
            have g4c : ((k : Int) == -1) = false := g4b
            go_wp2_with (go_at_call 44; refine (l00In_any _ _ _ _).mono ?_; rintro e w_ ⟨rfl, rfl⟩)
            first | (refine wp_region_quiet_lit (by kernel_rfl) (by kernel_rfl) ?_; refine WQ.of ?_; (repeat (refine WQ.step (fun K hK => ?_); go_simp; first | (refine hK _ ?_; clear hK K) | (apply Exists.intro; refine ⟨fun _ => ?_, hK _ ?_⟩; ((go_at_call 44; exact quiet_at (l00In_lit' G5.out _))); clear hK K))); refine WQ.nil ?_; intro _ hw'; obtain ⟨nq, hw''⟩ := hw'; subst hw'') | go_quiet ((go_at_call 44; exact quiet_at (l00In_lit' G5.out _)))
            go_wp2_with fail
            all_goals
              have h9 := HQ3.out
              go_ret
              subst h9
              exact ⟨by first | rfl | simp [*], by (repeat' (first | (with_reducible exact Below.refl _ _) | (with_reducible assumption) | (with_reducible refine Below.alloc ?_ ?_ _) | (with_reducible refine Below.drew ?_) | (with_reducible refine belowDrewN ?_ _) | (with_reducible refine Below.setCell ?_ ?_ _) | (with_reducible refine Below.via (by with_reducible assumption) ?_ ?_) | (with_reducible refine Below.viaD (by with_reducible assumption) ?_ ?_) | (with_reducible exact Below.size (by with_reducible assumption)) | go_size | (with_reducible refine Nat.le_trans ?_ (Below.size (by with_reducible assumption))) | (with_reducible refine Nat.le_trans ?_ (sizeAlloc _ _)) | (with_reducible refine Nat.le_trans ?_ (sizeSet _ _ _)) | (with_reducible refine Nat.le_trans ?_ (sizeDrew _))))⟩
end Go.Proofs.Ytdkljnlkfkjdpaa
