/- FnExactCaptureGain: the law. No conditions. -/
import Derived.Test.YtdkljnlkfkjdpaaCap12
import Derived.Deep.RegionHeld3
namespace Go.Proofs.Ytdkljnlkfkjdpaa
set_option linter.unusedSimpArgs false
set_option linter.unusedVariables false
open Go.RowKit

set_option maxRecDepth 100000 in
set_option maxHeartbeats 4000000 in
theorem ga_walk (p s : Int) (st sk re fe ag : Bool) (ca sl : Int) (A1 : Option Addr) (n1 c1 : Nat) (zs1 : List Int) (A2 : Option Addr) (n2 c2 : Nat) (zs2 : List Int) (la lp pl : Int) (w : World) (s1 : Sl w w.heap.size 1 A1 n1 (zs1.map (Value.int .i64))) (l1 : n1 ≤ 9223372036854775807) (s2 : Sl w w.heap.size 1 A2 n2 (zs2.map (Value.int .i64))) (l2 : n2 ≤ 9223372036854775807) :
    Calls Try.prog 4 #[.agg #[.int .i64 p, .int .i64 s, .bool st, .bool sk, .bool re, .bool fe, .bool ag, .int .i64 ca, .int .i64 sl], .agg #[.slice A1 n1 c1, .slice A2 n2 c2, .int .i64 la, .int .i64 lp], .int .i64 pl] w fun e w' => e = .returned (.bool true) ∧ Below w.heap.size w w' := by
  obtain ⟨r, hr⟩ : ∃ r : Ru, r = ⟨p, s, st, sk, re, fe, ag, ca, sl⟩ := ⟨_, rfl⟩
  obtain ⟨d, hd⟩ : ∃ d : SownD, d = ⟨zs1, zs2, la, lp⟩ := ⟨_, rfl⟩
  obtain rfl : r.p = p := by rw [hr]
  obtain rfl : r.s = s := by rw [hr]
  obtain rfl : r.st = st := by rw [hr]
  obtain rfl : r.sk = sk := by rw [hr]
  obtain rfl : r.re = re := by rw [hr]
  obtain rfl : r.fe = fe := by rw [hr]
  obtain rfl : r.ag = ag := by rw [hr]
  obtain rfl : r.ca = ca := by rw [hr]
  obtain rfl : r.sl = sl := by rw [hr]
  obtain rfl : d.pits = zs1 := by rw [hd]
  obtain rfl : d.stores = zs2 := by rw [hd]
  obtain rfl : d.last = la := by rw [hd]
  obtain rfl : d.laps = lp := by rw [hd]
  clear hr hd
  have hz1 := s1.ints
  have hz2 := s2.ints
  have hX : XSown w [.slice A1 n1 c1, .slice A2 n2 c2, .int .i64 d.last, .int .i64 d.laps] d := ⟨_, _, _, _, _, _, rfl, s1, l1, s2, l2⟩
  have HX := Lib.hid hX
  have HS1 := Lib.hid s1
  have HS2 := Lib.hid s2
  clear hX
  have hst := so_start w r (.slice A1 n1 c1) (.slice A2 n2 c2) (.int .i64 d.last) (.int .i64 d.laps) 23 26
  by_cases hbig : (szSown d : Int) ≤ 1048576
  case neg =>
    clear hst
    go_enter Try.func4, Try.ntmps4
    go_wp2_with fail
    refine (szSown_gt [.slice A1 n1 c1, .slice A2 n2 c2, .int .i64 d.last, .int .i64 d.laps] d 1048576 _ ((HX.out.boxed _).boxed _) (by omega) (by omega) (by omega)).mono ?_
    rintro e w1 ⟨rfl, hb1⟩
    go_wp2_with fail
    go_ret
    exact ⟨rfl, by (repeat' (first | (with_reducible exact Below.refl _ _) | (with_reducible assumption) | (with_reducible refine Below.alloc ?_ ?_ _) | (with_reducible refine Below.drew ?_) | (with_reducible refine belowDrewN ?_ _) | (with_reducible refine Below.setCell ?_ ?_ _) | (with_reducible refine Below.via (by with_reducible assumption) ?_ ?_) | (with_reducible refine Below.viaD (by with_reducible assumption) ?_ ?_) | (with_reducible exact Below.size (by with_reducible assumption)) | go_size | (with_reducible refine Nat.le_trans ?_ (Below.size (by with_reducible assumption))) | (with_reducible refine Nat.le_trans ?_ (sizeAlloc _ _)) | (with_reducible refine Nat.le_trans ?_ (sizeSet _ _ _)) | (with_reducible refine Nat.le_trans ?_ (sizeDrew _))))⟩
  case pos =>
    have hsz : szSown d ≤ 1048576 := by omega
    have h1 : n1 ≤ 1048576 := by unfold szSown at hsz; omega
    have h2 : n2 ≤ 1048576 := by unfold szSown at hsz; omega
    obtain ⟨v, code, hev⟩ : ∃ v code, gainR r d pl = (v, code) := ⟨_, _, rfl⟩
    have HE := Lib.hid hev
    clear hev
    have hvn : (v != v) = false := by simp
    have hcn : (code != code) = false := by simp
    clear s1 s2 l1 l2
    have HST := Lib.hid hst
    clear hst
    go_enter Try.func4, Try.ntmps4
    go_wp2_with fail
    refine (szSown_le [.slice A1 n1 c1, .slice A2 n2 c2, .int .i64 d.last, .int .i64 d.laps] d 1048576 _ ((HX.out.boxed _).boxed _) (by omega) (by omega)).mono ?_
    rintro e w1 ⟨rfl, hb1⟩
    have hS1 := so_keep HST.out hb1
    clear hb1
    go_wp2_with fail
    go_region_held3 (fun W => (W.cell? ⟨w.heap.size, 0, none⟩ = some (.int .i64 r.p) ∧ W.cell? ⟨w.heap.size, 1, none⟩ = some (.int .i64 r.s) ∧ W.cell? ⟨w.heap.size, 2, none⟩ = some (.bool r.st) ∧ W.cell? ⟨w.heap.size, 3, none⟩ = some (.bool r.sk) ∧ W.cell? ⟨w.heap.size, 4, none⟩ = some (.bool r.re) ∧ W.cell? ⟨w.heap.size, 5, none⟩ = some (.bool r.fe) ∧ W.cell? ⟨w.heap.size, 6, none⟩ = some (.bool r.ag) ∧ W.cell? ⟨w.heap.size, 7, none⟩ = some (.int .i64 r.ca) ∧ W.cell? ⟨w.heap.size, 8, none⟩ = some (.int .i64 r.sl)) ∧ (W.cell? ⟨w.heap.size + 1, 0, none⟩ = some (.slice A1 n1 c1) ∧ W.cell? ⟨w.heap.size + 1, 1, none⟩ = some (.slice A2 n2 c2) ∧ W.cell? ⟨w.heap.size + 1, 2, none⟩ = some (.int .i64 d.last) ∧ W.cell? ⟨w.heap.size + 1, 3, none⟩ = some (.int .i64 d.laps)) ∧ Below w.heap.size w W) (first | (with_reducible exact so_drew hS1) | (with_reducible exact so_keep (by with_reducible assumption) (by with_reducible assumption)) | (with_reducible assumption)) (first
      | (go_at_call 10; (with_reducible refine Calls.mono (toRules_any r _) ?_); rintro e w3 ⟨rfl, hb3⟩)
      | (go_at_call 11; (with_reducible refine Calls.mono (toSown_own A1 A2 n1 c1 n2 c2 d _ ?_ ?_ h1 h2) ?_); (exact HS1.out.later (by with_reducible exact And.right (And.right (by with_reducible assumption)))); (exact HS2.out.later (by with_reducible exact And.right (And.right (by with_reducible assumption)))); rintro e w4 ⟨g1, g2, rfl, t1, t2, hb4⟩)
      | (go_at_call 14; (with_reducible refine Calls.mono (sCaptureGain_any r _ _ n1 n1 n2 n2 d pl v code _ ?_ ?_ hsz HE.out) ?_); (exact t1.later (by (repeat' (first | (with_reducible exact Below.refl _ _) | (with_reducible assumption) | (with_reducible refine Below.alloc ?_ ?_ _) | (with_reducible refine Below.drew ?_) | (with_reducible refine belowDrewN ?_ _) | (with_reducible refine Below.setCell ?_ ?_ _) | (with_reducible refine Below.via (by with_reducible assumption) ?_ ?_) | (with_reducible refine Below.viaD (by with_reducible assumption) ?_ ?_) | (with_reducible exact Below.size (by with_reducible assumption)) | go_size | (with_reducible refine Nat.le_trans ?_ (Below.size (by with_reducible assumption))) | (with_reducible refine Nat.le_trans ?_ (sizeAlloc _ _)) | (with_reducible refine Nat.le_trans ?_ (sizeSet _ _ _)) | (with_reducible refine Nat.le_trans ?_ (sizeDrew _)))))); (exact t2.later (by (repeat' (first | (with_reducible exact Below.refl _ _) | (with_reducible assumption) | (with_reducible refine Below.alloc ?_ ?_ _) | (with_reducible refine Below.drew ?_) | (with_reducible refine belowDrewN ?_ _) | (with_reducible refine Below.setCell ?_ ?_ _) | (with_reducible refine Below.via (by with_reducible assumption) ?_ ?_) | (with_reducible refine Below.viaD (by with_reducible assumption) ?_ ?_) | (with_reducible exact Below.size (by with_reducible assumption)) | go_size | (with_reducible refine Nat.le_trans ?_ (Below.size (by with_reducible assumption))) | (with_reducible refine Nat.le_trans ?_ (sizeAlloc _ _)) | (with_reducible refine Nat.le_trans ?_ (sizeSet _ _ _)) | (with_reducible refine Nat.le_trans ?_ (sizeDrew _)))))); rintro e w5 ⟨rfl, hb5⟩))
    all_goals
      have hS5 : (w5.cell? ⟨w.heap.size, 0, none⟩ = some (.int .i64 r.p) ∧ w5.cell? ⟨w.heap.size, 1, none⟩ = some (.int .i64 r.s) ∧ w5.cell? ⟨w.heap.size, 2, none⟩ = some (.bool r.st) ∧ w5.cell? ⟨w.heap.size, 3, none⟩ = some (.bool r.sk) ∧ w5.cell? ⟨w.heap.size, 4, none⟩ = some (.bool r.re) ∧ w5.cell? ⟨w.heap.size, 5, none⟩ = some (.bool r.fe) ∧ w5.cell? ⟨w.heap.size, 6, none⟩ = some (.bool r.ag) ∧ w5.cell? ⟨w.heap.size, 7, none⟩ = some (.int .i64 r.ca) ∧ w5.cell? ⟨w.heap.size, 8, none⟩ = some (.int .i64 r.sl)) ∧ (w5.cell? ⟨w.heap.size + 1, 0, none⟩ = some (.slice A1 n1 c1) ∧ w5.cell? ⟨w.heap.size + 1, 1, none⟩ = some (.slice A2 n2 c2) ∧ w5.cell? ⟨w.heap.size + 1, 2, none⟩ = some (.int .i64 d.last) ∧ w5.cell? ⟨w.heap.size + 1, 3, none⟩ = some (.int .i64 d.laps)) ∧ Below w.heap.size w w5 := by with_reducible assumption
      have HS5 := Lib.hid hS5
      obtain ⟨⟨a0, a1, a2, a3, a4, a5, a6, a7, a8⟩, ⟨b0, b1, b2, b3⟩, hB5⟩ := hS5
      go_wp2_with fail
      refine (toSown_own A1 A2 n1 c1 n2 c2 d _ (HS1.out.later hB5) (HS2.out.later hB5) h1 h2).mono ?_
      rintro e w6 ⟨x1, x2, rfl, t1, t2, hb6⟩
      have hS6 := so_keep HS5.out hb6
      have hS7 := sob_start (u1 := .slice (some ⟨x1, 0, none⟩) n1 n1) (u2 := .slice (some ⟨x2, 0, none⟩) n2 n2) (u3 := .int .i64 d.last) (u4 := .int .i64 d.laps) 31 hS6
      clear a0 a1 a2 a3 a4 a5 a6 a7 a8 b0 b1 b2 b3 hB5 hb6 hS6 HS5
      have T1 := Lib.hid t1
      have T2 := Lib.hid t2
      clear t1 t2
      go_wp2_with fail
      go_region_held3 (fun W => ((W.cell? ⟨w.heap.size, 0, none⟩ = some (.int .i64 r.p) ∧ W.cell? ⟨w.heap.size, 1, none⟩ = some (.int .i64 r.s) ∧ W.cell? ⟨w.heap.size, 2, none⟩ = some (.bool r.st) ∧ W.cell? ⟨w.heap.size, 3, none⟩ = some (.bool r.sk) ∧ W.cell? ⟨w.heap.size, 4, none⟩ = some (.bool r.re) ∧ W.cell? ⟨w.heap.size, 5, none⟩ = some (.bool r.fe) ∧ W.cell? ⟨w.heap.size, 6, none⟩ = some (.bool r.ag) ∧ W.cell? ⟨w.heap.size, 7, none⟩ = some (.int .i64 r.ca) ∧ W.cell? ⟨w.heap.size, 8, none⟩ = some (.int .i64 r.sl)) ∧ (W.cell? ⟨w.heap.size + 1, 0, none⟩ = some (.slice A1 n1 c1) ∧ W.cell? ⟨w.heap.size + 1, 1, none⟩ = some (.slice A2 n2 c2) ∧ W.cell? ⟨w.heap.size + 1, 2, none⟩ = some (.int .i64 d.last) ∧ W.cell? ⟨w.heap.size + 1, 3, none⟩ = some (.int .i64 d.laps)) ∧ Below w.heap.size w W) ∧ (W.cell? ⟨w6.heap.size, 0, none⟩ = some (.slice (some ⟨x1, 0, none⟩) n1 n1) ∧ W.cell? ⟨w6.heap.size, 1, none⟩ = some (.slice (some ⟨x2, 0, none⟩) n2 n2) ∧ W.cell? ⟨w6.heap.size, 2, none⟩ = some (.int .i64 d.last) ∧ W.cell? ⟨w6.heap.size, 3, none⟩ = some (.int .i64 d.laps)) ∧ Below w6.heap.size w6 W) (first | (with_reducible exact sob_drew hS7) | (with_reducible exact sob_keep (by with_reducible assumption) (by with_reducible assumption)) | (with_reducible assumption)) (first
        | (go_at_call 10; (with_reducible refine Calls.mono (toRules_any r _) ?_); rintro e w7 ⟨rfl, hb7⟩)
        | (go_at_call 15; (with_reducible refine Calls.mono (CaptureGain_any r _ _ n1 n1 n2 n2 d pl v code _ ?_ ?_ (Nat.le_refl _) (by omega) hsz HE.out) ?_); (exact T1.out.later (by with_reducible exact And.right (And.right (by with_reducible assumption)))); (exact T2.out.later (by with_reducible exact And.right (And.right (by with_reducible assumption)))); rintro e w8 ⟨rfl, hb8⟩))
      all_goals
        have hS8 : ((w8.cell? ⟨w.heap.size, 0, none⟩ = some (.int .i64 r.p) ∧ w8.cell? ⟨w.heap.size, 1, none⟩ = some (.int .i64 r.s) ∧ w8.cell? ⟨w.heap.size, 2, none⟩ = some (.bool r.st) ∧ w8.cell? ⟨w.heap.size, 3, none⟩ = some (.bool r.sk) ∧ w8.cell? ⟨w.heap.size, 4, none⟩ = some (.bool r.re) ∧ w8.cell? ⟨w.heap.size, 5, none⟩ = some (.bool r.fe) ∧ w8.cell? ⟨w.heap.size, 6, none⟩ = some (.bool r.ag) ∧ w8.cell? ⟨w.heap.size, 7, none⟩ = some (.int .i64 r.ca) ∧ w8.cell? ⟨w.heap.size, 8, none⟩ = some (.int .i64 r.sl)) ∧ (w8.cell? ⟨w.heap.size + 1, 0, none⟩ = some (.slice A1 n1 c1) ∧ w8.cell? ⟨w.heap.size + 1, 1, none⟩ = some (.slice A2 n2 c2) ∧ w8.cell? ⟨w.heap.size + 1, 2, none⟩ = some (.int .i64 d.last) ∧ w8.cell? ⟨w.heap.size + 1, 3, none⟩ = some (.int .i64 d.laps)) ∧ Below w.heap.size w w8) ∧ (w8.cell? ⟨w6.heap.size, 0, none⟩ = some (.slice (some ⟨x1, 0, none⟩) n1 n1) ∧ w8.cell? ⟨w6.heap.size, 1, none⟩ = some (.slice (some ⟨x2, 0, none⟩) n2 n2) ∧ w8.cell? ⟨w6.heap.size, 2, none⟩ = some (.int .i64 d.last) ∧ w8.cell? ⟨w6.heap.size, 3, none⟩ = some (.int .i64 d.laps)) ∧ Below w6.heap.size w6 w8 := by with_reducible assumption
        have HS8 := Lib.hid hS8
        clear hS7 hS8
        go_wp2_with fail
        have hS7 := HS8.out
        go_region_held3 (fun W => ((W.cell? ⟨w.heap.size, 0, none⟩ = some (.int .i64 r.p) ∧ W.cell? ⟨w.heap.size, 1, none⟩ = some (.int .i64 r.s) ∧ W.cell? ⟨w.heap.size, 2, none⟩ = some (.bool r.st) ∧ W.cell? ⟨w.heap.size, 3, none⟩ = some (.bool r.sk) ∧ W.cell? ⟨w.heap.size, 4, none⟩ = some (.bool r.re) ∧ W.cell? ⟨w.heap.size, 5, none⟩ = some (.bool r.fe) ∧ W.cell? ⟨w.heap.size, 6, none⟩ = some (.bool r.ag) ∧ W.cell? ⟨w.heap.size, 7, none⟩ = some (.int .i64 r.ca) ∧ W.cell? ⟨w.heap.size, 8, none⟩ = some (.int .i64 r.sl)) ∧ (W.cell? ⟨w.heap.size + 1, 0, none⟩ = some (.slice A1 n1 c1) ∧ W.cell? ⟨w.heap.size + 1, 1, none⟩ = some (.slice A2 n2 c2) ∧ W.cell? ⟨w.heap.size + 1, 2, none⟩ = some (.int .i64 d.last) ∧ W.cell? ⟨w.heap.size + 1, 3, none⟩ = some (.int .i64 d.laps)) ∧ Below w.heap.size w W) ∧ (W.cell? ⟨w6.heap.size, 0, none⟩ = some (.slice (some ⟨x1, 0, none⟩) n1 n1) ∧ W.cell? ⟨w6.heap.size, 1, none⟩ = some (.slice (some ⟨x2, 0, none⟩) n2 n2) ∧ W.cell? ⟨w6.heap.size, 2, none⟩ = some (.int .i64 d.last) ∧ W.cell? ⟨w6.heap.size, 3, none⟩ = some (.int .i64 d.laps)) ∧ Below w6.heap.size w6 W) (first | (with_reducible exact sob_drew hS7) | (with_reducible exact sob_keep (by with_reducible assumption) (by with_reducible assumption)) | (with_reducible assumption)) (first
          | (go_at_call 11; (with_reducible refine Calls.mono (toSown_own A1 A2 n1 c1 n2 c2 d _ ?_ ?_ h1 h2) ?_); (exact HS1.out.later (by with_reducible exact And.right (And.right (And.left (by with_reducible assumption))))); (exact HS2.out.later (by with_reducible exact And.right (And.right (And.left (by with_reducible assumption))))); rintro e w9 ⟨y1, y2, rfl, q1, q2, hb9⟩)
          | (go_at_call 13; (with_reducible refine Calls.mono (eqSown_same [.slice (some ⟨x1, 0, none⟩) n1 n1, .slice (some ⟨x2, 0, none⟩) n2 n2, .int .i64 d.last, .int .i64 d.laps] [.slice (some ⟨y1, 0, none⟩) n1 n1, .slice (some ⟨y2, 0, none⟩) n2 n2, .int .i64 d.last, .int .i64 d.laps] d _ ?_ ?_) ?_); (exact ⟨_, _, _, _, _, _, rfl, T1.out.later (by with_reducible exact And.right (And.right (by with_reducible assumption))), by omega, T2.out.later (by with_reducible exact And.right (And.right (by with_reducible assumption))), by omega⟩); (exact ⟨_, _, _, _, _, _, rfl, q1, by omega, q2, by omega⟩); rintro e w10 ⟨rfl, hb10⟩))
        all_goals
          have hS10 : ((w10.cell? ⟨w.heap.size, 0, none⟩ = some (.int .i64 r.p) ∧ w10.cell? ⟨w.heap.size, 1, none⟩ = some (.int .i64 r.s) ∧ w10.cell? ⟨w.heap.size, 2, none⟩ = some (.bool r.st) ∧ w10.cell? ⟨w.heap.size, 3, none⟩ = some (.bool r.sk) ∧ w10.cell? ⟨w.heap.size, 4, none⟩ = some (.bool r.re) ∧ w10.cell? ⟨w.heap.size, 5, none⟩ = some (.bool r.fe) ∧ w10.cell? ⟨w.heap.size, 6, none⟩ = some (.bool r.ag) ∧ w10.cell? ⟨w.heap.size, 7, none⟩ = some (.int .i64 r.ca) ∧ w10.cell? ⟨w.heap.size, 8, none⟩ = some (.int .i64 r.sl)) ∧ (w10.cell? ⟨w.heap.size + 1, 0, none⟩ = some (.slice A1 n1 c1) ∧ w10.cell? ⟨w.heap.size + 1, 1, none⟩ = some (.slice A2 n2 c2) ∧ w10.cell? ⟨w.heap.size + 1, 2, none⟩ = some (.int .i64 d.last) ∧ w10.cell? ⟨w.heap.size + 1, 3, none⟩ = some (.int .i64 d.laps)) ∧ Below w.heap.size w w10) ∧ (w10.cell? ⟨w6.heap.size, 0, none⟩ = some (.slice (some ⟨x1, 0, none⟩) n1 n1) ∧ w10.cell? ⟨w6.heap.size, 1, none⟩ = some (.slice (some ⟨x2, 0, none⟩) n2 n2) ∧ w10.cell? ⟨w6.heap.size, 2, none⟩ = some (.int .i64 d.last) ∧ w10.cell? ⟨w6.heap.size, 3, none⟩ = some (.int .i64 d.laps)) ∧ Below w6.heap.size w6 w10 := by with_reducible assumption
          have HB := hS10.1.2.2
          go_wp2_with fail
          go_ret
          exact ⟨rfl, HB⟩
end Go.Proofs.Ytdkljnlkfkjdpaa
