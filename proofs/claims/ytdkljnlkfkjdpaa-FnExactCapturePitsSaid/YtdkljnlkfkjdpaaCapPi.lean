/- FnExactCapturePits: the law. No conditions. -/
import Derived.Test.YtdkljnlkfkjdpaaCap13
import Derived.Deep.RegionHeld3
namespace Go.Proofs.Ytdkljnlkfkjdpaa
set_option linter.unusedSimpArgs false
set_option linter.unusedVariables false
open Go.RowKit

theorem so3_keep {w wb W W' : World} {r : Ru} {v1 v2 v3 v4 : Value} (h : ((W.cell? ⟨w.heap.size, 0, none⟩ = some (.int .i64 r.p) ∧ W.cell? ⟨w.heap.size, 1, none⟩ = some (.int .i64 r.s) ∧ W.cell? ⟨w.heap.size, 2, none⟩ = some (.bool r.st) ∧ W.cell? ⟨w.heap.size, 3, none⟩ = some (.bool r.sk) ∧ W.cell? ⟨w.heap.size, 4, none⟩ = some (.bool r.re) ∧ W.cell? ⟨w.heap.size, 5, none⟩ = some (.bool r.fe) ∧ W.cell? ⟨w.heap.size, 6, none⟩ = some (.bool r.ag) ∧ W.cell? ⟨w.heap.size, 7, none⟩ = some (.int .i64 r.ca) ∧ W.cell? ⟨w.heap.size, 8, none⟩ = some (.int .i64 r.sl)) ∧ (W.cell? ⟨w.heap.size + 1, 0, none⟩ = some (v1) ∧ W.cell? ⟨w.heap.size + 1, 1, none⟩ = some (v2) ∧ W.cell? ⟨w.heap.size + 1, 2, none⟩ = some (v3) ∧ W.cell? ⟨w.heap.size + 1, 3, none⟩ = some (v4)) ∧ Below w.heap.size w W) ∧ Below wb.heap.size wb W) (hb : Below W.heap.size W W') : ((W'.cell? ⟨w.heap.size, 0, none⟩ = some (.int .i64 r.p) ∧ W'.cell? ⟨w.heap.size, 1, none⟩ = some (.int .i64 r.s) ∧ W'.cell? ⟨w.heap.size, 2, none⟩ = some (.bool r.st) ∧ W'.cell? ⟨w.heap.size, 3, none⟩ = some (.bool r.sk) ∧ W'.cell? ⟨w.heap.size, 4, none⟩ = some (.bool r.re) ∧ W'.cell? ⟨w.heap.size, 5, none⟩ = some (.bool r.fe) ∧ W'.cell? ⟨w.heap.size, 6, none⟩ = some (.bool r.ag) ∧ W'.cell? ⟨w.heap.size, 7, none⟩ = some (.int .i64 r.ca) ∧ W'.cell? ⟨w.heap.size, 8, none⟩ = some (.int .i64 r.sl)) ∧ (W'.cell? ⟨w.heap.size + 1, 0, none⟩ = some (v1) ∧ W'.cell? ⟨w.heap.size + 1, 1, none⟩ = some (v2) ∧ W'.cell? ⟨w.heap.size + 1, 2, none⟩ = some (v3) ∧ W'.cell? ⟨w.heap.size + 1, 3, none⟩ = some (v4)) ∧ Below w.heap.size w W') ∧ Below wb.heap.size wb W' := ⟨so_keep h.1 hb, Below.via hb h.2 h.2.size⟩
theorem so3_drew {w wb W : World} {r : Ru} {v1 v2 v3 v4 : Value} (h : ((W.cell? ⟨w.heap.size, 0, none⟩ = some (.int .i64 r.p) ∧ W.cell? ⟨w.heap.size, 1, none⟩ = some (.int .i64 r.s) ∧ W.cell? ⟨w.heap.size, 2, none⟩ = some (.bool r.st) ∧ W.cell? ⟨w.heap.size, 3, none⟩ = some (.bool r.sk) ∧ W.cell? ⟨w.heap.size, 4, none⟩ = some (.bool r.re) ∧ W.cell? ⟨w.heap.size, 5, none⟩ = some (.bool r.fe) ∧ W.cell? ⟨w.heap.size, 6, none⟩ = some (.bool r.ag) ∧ W.cell? ⟨w.heap.size, 7, none⟩ = some (.int .i64 r.ca) ∧ W.cell? ⟨w.heap.size, 8, none⟩ = some (.int .i64 r.sl)) ∧ (W.cell? ⟨w.heap.size + 1, 0, none⟩ = some (v1) ∧ W.cell? ⟨w.heap.size + 1, 1, none⟩ = some (v2) ∧ W.cell? ⟨w.heap.size + 1, 2, none⟩ = some (v3) ∧ W.cell? ⟨w.heap.size + 1, 3, none⟩ = some (v4)) ∧ Below w.heap.size w W) ∧ Below wb.heap.size wb W) : ((W.drew.cell? ⟨w.heap.size, 0, none⟩ = some (.int .i64 r.p) ∧ W.drew.cell? ⟨w.heap.size, 1, none⟩ = some (.int .i64 r.s) ∧ W.drew.cell? ⟨w.heap.size, 2, none⟩ = some (.bool r.st) ∧ W.drew.cell? ⟨w.heap.size, 3, none⟩ = some (.bool r.sk) ∧ W.drew.cell? ⟨w.heap.size, 4, none⟩ = some (.bool r.re) ∧ W.drew.cell? ⟨w.heap.size, 5, none⟩ = some (.bool r.fe) ∧ W.drew.cell? ⟨w.heap.size, 6, none⟩ = some (.bool r.ag) ∧ W.drew.cell? ⟨w.heap.size, 7, none⟩ = some (.int .i64 r.ca) ∧ W.drew.cell? ⟨w.heap.size, 8, none⟩ = some (.int .i64 r.sl)) ∧ (W.drew.cell? ⟨w.heap.size + 1, 0, none⟩ = some (v1) ∧ W.drew.cell? ⟨w.heap.size + 1, 1, none⟩ = some (v2) ∧ W.drew.cell? ⟨w.heap.size + 1, 2, none⟩ = some (v3) ∧ W.drew.cell? ⟨w.heap.size + 1, 3, none⟩ = some (v4)) ∧ Below w.heap.size w W.drew) ∧ Below wb.heap.size wb W.drew := ⟨so_drew h.1, Below.drew h.2⟩
theorem sob3_keep {w w6 wb W W' : World} {r : Ru} {v1 v2 v3 v4 u1 u2 u3 u4 : Value} (h : (((W.cell? ⟨w.heap.size, 0, none⟩ = some (.int .i64 r.p) ∧ W.cell? ⟨w.heap.size, 1, none⟩ = some (.int .i64 r.s) ∧ W.cell? ⟨w.heap.size, 2, none⟩ = some (.bool r.st) ∧ W.cell? ⟨w.heap.size, 3, none⟩ = some (.bool r.sk) ∧ W.cell? ⟨w.heap.size, 4, none⟩ = some (.bool r.re) ∧ W.cell? ⟨w.heap.size, 5, none⟩ = some (.bool r.fe) ∧ W.cell? ⟨w.heap.size, 6, none⟩ = some (.bool r.ag) ∧ W.cell? ⟨w.heap.size, 7, none⟩ = some (.int .i64 r.ca) ∧ W.cell? ⟨w.heap.size, 8, none⟩ = some (.int .i64 r.sl)) ∧ (W.cell? ⟨w.heap.size + 1, 0, none⟩ = some (v1) ∧ W.cell? ⟨w.heap.size + 1, 1, none⟩ = some (v2) ∧ W.cell? ⟨w.heap.size + 1, 2, none⟩ = some (v3) ∧ W.cell? ⟨w.heap.size + 1, 3, none⟩ = some (v4)) ∧ Below w.heap.size w W) ∧ (W.cell? ⟨w6.heap.size, 0, none⟩ = some (u1) ∧ W.cell? ⟨w6.heap.size, 1, none⟩ = some (u2) ∧ W.cell? ⟨w6.heap.size, 2, none⟩ = some (u3) ∧ W.cell? ⟨w6.heap.size, 3, none⟩ = some (u4)) ∧ Below w6.heap.size w6 W) ∧ Below wb.heap.size wb W) (hb : Below W.heap.size W W') : (((W'.cell? ⟨w.heap.size, 0, none⟩ = some (.int .i64 r.p) ∧ W'.cell? ⟨w.heap.size, 1, none⟩ = some (.int .i64 r.s) ∧ W'.cell? ⟨w.heap.size, 2, none⟩ = some (.bool r.st) ∧ W'.cell? ⟨w.heap.size, 3, none⟩ = some (.bool r.sk) ∧ W'.cell? ⟨w.heap.size, 4, none⟩ = some (.bool r.re) ∧ W'.cell? ⟨w.heap.size, 5, none⟩ = some (.bool r.fe) ∧ W'.cell? ⟨w.heap.size, 6, none⟩ = some (.bool r.ag) ∧ W'.cell? ⟨w.heap.size, 7, none⟩ = some (.int .i64 r.ca) ∧ W'.cell? ⟨w.heap.size, 8, none⟩ = some (.int .i64 r.sl)) ∧ (W'.cell? ⟨w.heap.size + 1, 0, none⟩ = some (v1) ∧ W'.cell? ⟨w.heap.size + 1, 1, none⟩ = some (v2) ∧ W'.cell? ⟨w.heap.size + 1, 2, none⟩ = some (v3) ∧ W'.cell? ⟨w.heap.size + 1, 3, none⟩ = some (v4)) ∧ Below w.heap.size w W') ∧ (W'.cell? ⟨w6.heap.size, 0, none⟩ = some (u1) ∧ W'.cell? ⟨w6.heap.size, 1, none⟩ = some (u2) ∧ W'.cell? ⟨w6.heap.size, 2, none⟩ = some (u3) ∧ W'.cell? ⟨w6.heap.size, 3, none⟩ = some (u4)) ∧ Below w6.heap.size w6 W') ∧ Below wb.heap.size wb W' := ⟨sob_keep h.1 hb, Below.via hb h.2 h.2.size⟩
theorem sob3_drew {w w6 wb W : World} {r : Ru} {v1 v2 v3 v4 u1 u2 u3 u4 : Value} (h : (((W.cell? ⟨w.heap.size, 0, none⟩ = some (.int .i64 r.p) ∧ W.cell? ⟨w.heap.size, 1, none⟩ = some (.int .i64 r.s) ∧ W.cell? ⟨w.heap.size, 2, none⟩ = some (.bool r.st) ∧ W.cell? ⟨w.heap.size, 3, none⟩ = some (.bool r.sk) ∧ W.cell? ⟨w.heap.size, 4, none⟩ = some (.bool r.re) ∧ W.cell? ⟨w.heap.size, 5, none⟩ = some (.bool r.fe) ∧ W.cell? ⟨w.heap.size, 6, none⟩ = some (.bool r.ag) ∧ W.cell? ⟨w.heap.size, 7, none⟩ = some (.int .i64 r.ca) ∧ W.cell? ⟨w.heap.size, 8, none⟩ = some (.int .i64 r.sl)) ∧ (W.cell? ⟨w.heap.size + 1, 0, none⟩ = some (v1) ∧ W.cell? ⟨w.heap.size + 1, 1, none⟩ = some (v2) ∧ W.cell? ⟨w.heap.size + 1, 2, none⟩ = some (v3) ∧ W.cell? ⟨w.heap.size + 1, 3, none⟩ = some (v4)) ∧ Below w.heap.size w W) ∧ (W.cell? ⟨w6.heap.size, 0, none⟩ = some (u1) ∧ W.cell? ⟨w6.heap.size, 1, none⟩ = some (u2) ∧ W.cell? ⟨w6.heap.size, 2, none⟩ = some (u3) ∧ W.cell? ⟨w6.heap.size, 3, none⟩ = some (u4)) ∧ Below w6.heap.size w6 W) ∧ Below wb.heap.size wb W) : (((W.drew.cell? ⟨w.heap.size, 0, none⟩ = some (.int .i64 r.p) ∧ W.drew.cell? ⟨w.heap.size, 1, none⟩ = some (.int .i64 r.s) ∧ W.drew.cell? ⟨w.heap.size, 2, none⟩ = some (.bool r.st) ∧ W.drew.cell? ⟨w.heap.size, 3, none⟩ = some (.bool r.sk) ∧ W.drew.cell? ⟨w.heap.size, 4, none⟩ = some (.bool r.re) ∧ W.drew.cell? ⟨w.heap.size, 5, none⟩ = some (.bool r.fe) ∧ W.drew.cell? ⟨w.heap.size, 6, none⟩ = some (.bool r.ag) ∧ W.drew.cell? ⟨w.heap.size, 7, none⟩ = some (.int .i64 r.ca) ∧ W.drew.cell? ⟨w.heap.size, 8, none⟩ = some (.int .i64 r.sl)) ∧ (W.drew.cell? ⟨w.heap.size + 1, 0, none⟩ = some (v1) ∧ W.drew.cell? ⟨w.heap.size + 1, 1, none⟩ = some (v2) ∧ W.drew.cell? ⟨w.heap.size + 1, 2, none⟩ = some (v3) ∧ W.drew.cell? ⟨w.heap.size + 1, 3, none⟩ = some (v4)) ∧ Below w.heap.size w W.drew) ∧ (W.drew.cell? ⟨w6.heap.size, 0, none⟩ = some (u1) ∧ W.drew.cell? ⟨w6.heap.size, 1, none⟩ = some (u2) ∧ W.drew.cell? ⟨w6.heap.size, 2, none⟩ = some (u3) ∧ W.drew.cell? ⟨w6.heap.size, 3, none⟩ = some (u4)) ∧ Below w6.heap.size w6 W.drew) ∧ Below wb.heap.size wb W.drew := ⟨sob_drew h.1, Below.drew h.2⟩
set_option maxRecDepth 100000 in
set_option maxHeartbeats 4000000 in
theorem cp_walk (p s : Int) (st sk re fe ag : Bool) (ca sl : Int) (A1 : Option Addr) (n1 c1 : Nat) (zs1 : List Int) (A2 : Option Addr) (n2 c2 : Nat) (zs2 : List Int) (la lp pl : Int) (w : World) (s1 : Sl w w.heap.size 1 A1 n1 (zs1.map (Value.int .i64))) (l1 : n1 ≤ 9223372036854775807) (s2 : Sl w w.heap.size 1 A2 n2 (zs2.map (Value.int .i64))) (l2 : n2 ≤ 9223372036854775807) :
    Calls Try.prog 5 #[.agg #[.int .i64 p, .int .i64 s, .bool st, .bool sk, .bool re, .bool fe, .bool ag, .int .i64 ca, .int .i64 sl], .agg #[.slice A1 n1 c1, .slice A2 n2 c2, .int .i64 la, .int .i64 lp], .int .i64 pl] w fun e w' => e = .returned (.bool true) ∧ Below w.heap.size w w' := by
  obtain ⟨r, hr⟩ : ∃ r : Ru, r = ⟨p, s, st, sk, re, fe, ag, ca, sl⟩ := ⟨_, rfl⟩
  obtain ⟨d, hd⟩ : ∃ d : SownD, d = ⟨zs1, zs2, la, lp⟩ := ⟨_, rfl⟩
  obtain rfl : r.p = p := by rw [hr]
  obtain rfl : r.s = s := by rw [hr]
  obtain rfl : r.st = st := by rw [hr]
  obtain rfl : r.sk = sk := by rw [hr]
  obtain rfl : r.re = re := by rw [hr]
  obtain rfl : r.fe = fe := by rw [hr]
  obtain rfl : r.ag = ag := by rw [hr]
  obtain rfl : r.ca = ca := by rw [hr]
  obtain rfl : r.sl = sl := by rw [hr]
  obtain rfl : d.pits = zs1 := by rw [hd]
  obtain rfl : d.stores = zs2 := by rw [hd]
  obtain rfl : d.last = la := by rw [hd]
  obtain rfl : d.laps = lp := by rw [hd]
  clear hr hd
  have hz1 := s1.ints
  have hz2 := s2.ints
  have hX : XSown w [.slice A1 n1 c1, .slice A2 n2 c2, .int .i64 d.last, .int .i64 d.laps] d := ⟨_, _, _, _, _, _, rfl, s1, l1, s2, l2⟩
  have HX := Lib.hid hX
  have HS1 := Lib.hid s1
  have HS2 := Lib.hid s2
  clear hX
  have hst := so_start w r (.slice A1 n1 c1) (.slice A2 n2 c2) (.int .i64 d.last) (.int .i64 d.laps) 23 26
  by_cases hbig : (szSown d : Int) ≤ 1048576
  case neg =>
    clear hst
    go_enter Try.func5, Try.ntmps5
    go_wp2_with fail
    refine (szSown_gt [.slice A1 n1 c1, .slice A2 n2 c2, .int .i64 d.last, .int .i64 d.laps] d 1048576 _ ((HX.out.boxed _).boxed _) (by omega) (by omega) (by omega)).mono ?_
    rintro e w1 ⟨rfl, hb1⟩
    go_wp2_with fail
    go_ret
    exact ⟨rfl, by (repeat' (first | (with_reducible exact Below.refl _ _) | (with_reducible assumption) | (with_reducible refine Below.alloc ?_ ?_ _) | (with_reducible refine Below.drew ?_) | (with_reducible refine belowDrewN ?_ _) | (with_reducible refine Below.setCell ?_ ?_ _) | (with_reducible refine Below.via (by with_reducible assumption) ?_ ?_) | (with_reducible refine Below.viaD (by with_reducible assumption) ?_ ?_) | (with_reducible exact Below.size (by with_reducible assumption)) | go_size | (with_reducible refine Nat.le_trans ?_ (Below.size (by with_reducible assumption))) | (with_reducible refine Nat.le_trans ?_ (sizeAlloc _ _)) | (with_reducible refine Nat.le_trans ?_ (sizeSet _ _ _)) | (with_reducible refine Nat.le_trans ?_ (sizeDrew _))))⟩
  case pos =>
    have hsz : szSown d ≤ 1048576 := by omega
    have h1 : n1 ≤ 1048576 := by unfold szSown at hsz; omega
    have h2 : n2 ≤ 1048576 := by unfold szSown at hsz; omega
    obtain ⟨l, code, hev⟩ : ∃ l code, pitsR r d pl = (l, code) := ⟨_, _, rfl⟩
    have hll := pitsR_len hev
    have HE := Lib.hid hev
    clear hev
    have hbeq : (l == l) = true := beq_self_eq_true l
    have hcn : (code != code) = false := by simp
    have hkn : ¬ ((1 : Int) + (n1 : Nat) + (n2 : Nat) < 0) := by omega
    clear s1 s2 l1 l2
    have HST := Lib.hid hst
    clear hst
    go_enter Try.func5, Try.ntmps5
    go_wp2_with fail
    refine (szSown_le [.slice A1 n1 c1, .slice A2 n2 c2, .int .i64 d.last, .int .i64 d.laps] d 1048576 _ ((HX.out.boxed _).boxed _) (by omega) (by omega)).mono ?_
    rintro e w1 ⟨rfl, hb1⟩
    have hS1 := so_keep HST.out hb1
    clear hb1
    go_wp2_with fail
    go_region_held3 (fun W => (W.cell? ⟨w.heap.size, 0, none⟩ = some (.int .i64 r.p) ∧ W.cell? ⟨w.heap.size, 1, none⟩ = some (.int .i64 r.s) ∧ W.cell? ⟨w.heap.size, 2, none⟩ = some (.bool r.st) ∧ W.cell? ⟨w.heap.size, 3, none⟩ = some (.bool r.sk) ∧ W.cell? ⟨w.heap.size, 4, none⟩ = some (.bool r.re) ∧ W.cell? ⟨w.heap.size, 5, none⟩ = some (.bool r.fe) ∧ W.cell? ⟨w.heap.size, 6, none⟩ = some (.bool r.ag) ∧ W.cell? ⟨w.heap.size, 7, none⟩ = some (.int .i64 r.ca) ∧ W.cell? ⟨w.heap.size, 8, none⟩ = some (.int .i64 r.sl)) ∧ (W.cell? ⟨w.heap.size + 1, 0, none⟩ = some (.slice A1 n1 c1) ∧ W.cell? ⟨w.heap.size + 1, 1, none⟩ = some (.slice A2 n2 c2) ∧ W.cell? ⟨w.heap.size + 1, 2, none⟩ = some (.int .i64 d.last) ∧ W.cell? ⟨w.heap.size + 1, 3, none⟩ = some (.int .i64 d.laps)) ∧ Below w.heap.size w W) (first | (with_reducible exact so_drew hS1) | (with_reducible exact so_keep (by with_reducible assumption) (by with_reducible assumption)) | (with_reducible assumption)) (first
      | (go_at_call 10; (with_reducible refine Calls.mono (toRules_any r _) ?_); rintro e w3 ⟨rfl, hb3⟩)
      | (go_at_call 11; (with_reducible refine Calls.mono (toSown_own A1 A2 n1 c1 n2 c2 d _ ?_ ?_ h1 h2) ?_); (exact HS1.out.later (by with_reducible exact And.right (And.right (by with_reducible assumption)))); (exact HS2.out.later (by with_reducible exact And.right (And.right (by with_reducible assumption)))); rintro e w4 ⟨g1, g2, rfl, t1, t2, hb4⟩)
      | (go_at_call 16; (with_reducible refine Calls.mono (sCapturePits_any r _ _ n1 n1 n2 n2 d pl l code _ ?_ ?_ hsz HE.out) ?_); (exact t1.later (by (repeat' (first | (with_reducible exact Below.refl _ _) | (with_reducible assumption) | (with_reducible refine Below.alloc ?_ ?_ _) | (with_reducible refine Below.drew ?_) | (with_reducible refine belowDrewN ?_ _) | (with_reducible refine Below.setCell ?_ ?_ _) | (with_reducible refine Below.via (by with_reducible assumption) ?_ ?_) | (with_reducible refine Below.viaD (by with_reducible assumption) ?_ ?_) | (with_reducible exact Below.size (by with_reducible assumption)) | go_size | (with_reducible refine Nat.le_trans ?_ (Below.size (by with_reducible assumption))) | (with_reducible refine Nat.le_trans ?_ (sizeAlloc _ _)) | (with_reducible refine Nat.le_trans ?_ (sizeSet _ _ _)) | (with_reducible refine Nat.le_trans ?_ (sizeDrew _)))))); (exact t2.later (by (repeat' (first | (with_reducible exact Below.refl _ _) | (with_reducible assumption) | (with_reducible refine Below.alloc ?_ ?_ _) | (with_reducible refine Below.drew ?_) | (with_reducible refine belowDrewN ?_ _) | (with_reducible refine Below.setCell ?_ ?_ _) | (with_reducible refine Below.via (by with_reducible assumption) ?_ ?_) | (with_reducible refine Below.viaD (by with_reducible assumption) ?_ ?_) | (with_reducible exact Below.size (by with_reducible assumption)) | go_size | (with_reducible refine Nat.le_trans ?_ (Below.size (by with_reducible assumption))) | (with_reducible refine Nat.le_trans ?_ (sizeAlloc _ _)) | (with_reducible refine Nat.le_trans ?_ (sizeSet _ _ _)) | (with_reducible refine Nat.le_trans ?_ (sizeDrew _)))))); rintro e w5 ⟨A0, g0, q0, rfl, hg0, o0, hb5⟩))
    all_goals
      have hS5 : (w5.cell? ⟨w.heap.size, 0, none⟩ = some (.int .i64 r.p) ∧ w5.cell? ⟨w.heap.size, 1, none⟩ = some (.int .i64 r.s) ∧ w5.cell? ⟨w.heap.size, 2, none⟩ = some (.bool r.st) ∧ w5.cell? ⟨w.heap.size, 3, none⟩ = some (.bool r.sk) ∧ w5.cell? ⟨w.heap.size, 4, none⟩ = some (.bool r.re) ∧ w5.cell? ⟨w.heap.size, 5, none⟩ = some (.bool r.fe) ∧ w5.cell? ⟨w.heap.size, 6, none⟩ = some (.bool r.ag) ∧ w5.cell? ⟨w.heap.size, 7, none⟩ = some (.int .i64 r.ca) ∧ w5.cell? ⟨w.heap.size, 8, none⟩ = some (.int .i64 r.sl)) ∧ (w5.cell? ⟨w.heap.size + 1, 0, none⟩ = some (.slice A1 n1 c1) ∧ w5.cell? ⟨w.heap.size + 1, 1, none⟩ = some (.slice A2 n2 c2) ∧ w5.cell? ⟨w.heap.size + 1, 2, none⟩ = some (.int .i64 d.last) ∧ w5.cell? ⟨w.heap.size + 1, 3, none⟩ = some (.int .i64 d.laps)) ∧ Below w.heap.size w w5 := by with_reducible assumption
      have HS5 := Lib.hid hS5
      have O0 := Lib.hid o0
      obtain ⟨⟨a0, a1, a2, a3, a4, a5, a6, a7, a8⟩, ⟨b0, b1, b2, b3⟩, hB5⟩ := hS5
      go_wp2_with fail
      refine (toSown_blk A1 A2 n1 c1 n2 c2 d _ (HS1.out.later hB5) (HS2.out.later hB5) h1 h2).mono ?_
      rintro e w6 ⟨x1, x2, rfl, t1, t2, ⟨gx1, gx2, gx3, gx4, gx5⟩, hb6⟩
      have hS6 := so_keep HS5.out hb6
      have hS7 := sob_start (u1 := .slice (some ⟨x1, 0, none⟩) n1 n1) (u2 := .slice (some ⟨x2, 0, none⟩) n2 n2) (u3 := .int .i64 d.last) (u4 := .int .i64 d.laps) 31 hS6
      have HB6 := Lib.hid hb6
      have HGX := Lib.hid (And.intro gx1 (And.intro gx2 (And.intro gx3 (And.intro gx4 gx5))))
      clear a0 a1 a2 a3 a4 a5 a6 a7 a8 b0 b1 b2 b3 hB5 hb6 hS6 gx1 gx2 gx3 gx4 gx5 o0 hg0
      have T1 := Lib.hid t1
      have T2 := Lib.hid t2
      clear t1 t2
      go_wp2_with fail
      go_region_held3 (fun W => ((W.cell? ⟨w.heap.size, 0, none⟩ = some (.int .i64 r.p) ∧ W.cell? ⟨w.heap.size, 1, none⟩ = some (.int .i64 r.s) ∧ W.cell? ⟨w.heap.size, 2, none⟩ = some (.bool r.st) ∧ W.cell? ⟨w.heap.size, 3, none⟩ = some (.bool r.sk) ∧ W.cell? ⟨w.heap.size, 4, none⟩ = some (.bool r.re) ∧ W.cell? ⟨w.heap.size, 5, none⟩ = some (.bool r.fe) ∧ W.cell? ⟨w.heap.size, 6, none⟩ = some (.bool r.ag) ∧ W.cell? ⟨w.heap.size, 7, none⟩ = some (.int .i64 r.ca) ∧ W.cell? ⟨w.heap.size, 8, none⟩ = some (.int .i64 r.sl)) ∧ (W.cell? ⟨w.heap.size + 1, 0, none⟩ = some (.slice A1 n1 c1) ∧ W.cell? ⟨w.heap.size + 1, 1, none⟩ = some (.slice A2 n2 c2) ∧ W.cell? ⟨w.heap.size + 1, 2, none⟩ = some (.int .i64 d.last) ∧ W.cell? ⟨w.heap.size + 1, 3, none⟩ = some (.int .i64 d.laps)) ∧ Below w.heap.size w W) ∧ (W.cell? ⟨w6.heap.size, 0, none⟩ = some (.slice (some ⟨x1, 0, none⟩) n1 n1) ∧ W.cell? ⟨w6.heap.size, 1, none⟩ = some (.slice (some ⟨x2, 0, none⟩) n2 n2) ∧ W.cell? ⟨w6.heap.size, 2, none⟩ = some (.int .i64 d.last) ∧ W.cell? ⟨w6.heap.size, 3, none⟩ = some (.int .i64 d.laps)) ∧ Below w6.heap.size w6 W) (first | (with_reducible exact sob_drew hS7) | (with_reducible exact sob_keep (by with_reducible assumption) (by with_reducible assumption)) | (with_reducible assumption)) (first
        | (go_at_call 10; (with_reducible refine Calls.mono (toRules_any r _) ?_); rintro e w7 ⟨rfl, hb7⟩)
        | (go_at_call 17; (with_reducible refine Calls.mono (CapturePits_any r _ _ n1 n1 n2 n2 d pl l code _ ?_ ?_ (Nat.le_refl _) (by omega) hsz HE.out) ?_); (exact (T1.out.later (by with_reducible exact And.right (And.right (by with_reducible assumption)))).sl); (exact (T2.out.later (by with_reducible exact And.right (And.right (by with_reducible assumption)))).sl); rintro e w8 ⟨A9, g9, q9, rfl, hg9, o9, hb8⟩; have HG9 : Hid (w6.heap.size ≤ g9) := Nat.le_trans (Below.size (B := w6.heap.size) (And.right (And.right (by with_reducible assumption)))) hg9))
      all_goals
        have hS8 : ((w8.cell? ⟨w.heap.size, 0, none⟩ = some (.int .i64 r.p) ∧ w8.cell? ⟨w.heap.size, 1, none⟩ = some (.int .i64 r.s) ∧ w8.cell? ⟨w.heap.size, 2, none⟩ = some (.bool r.st) ∧ w8.cell? ⟨w.heap.size, 3, none⟩ = some (.bool r.sk) ∧ w8.cell? ⟨w.heap.size, 4, none⟩ = some (.bool r.re) ∧ w8.cell? ⟨w.heap.size, 5, none⟩ = some (.bool r.fe) ∧ w8.cell? ⟨w.heap.size, 6, none⟩ = some (.bool r.ag) ∧ w8.cell? ⟨w.heap.size, 7, none⟩ = some (.int .i64 r.ca) ∧ w8.cell? ⟨w.heap.size, 8, none⟩ = some (.int .i64 r.sl)) ∧ (w8.cell? ⟨w.heap.size + 1, 0, none⟩ = some (.slice A1 n1 c1) ∧ w8.cell? ⟨w.heap.size + 1, 1, none⟩ = some (.slice A2 n2 c2) ∧ w8.cell? ⟨w.heap.size + 1, 2, none⟩ = some (.int .i64 d.last) ∧ w8.cell? ⟨w.heap.size + 1, 3, none⟩ = some (.int .i64 d.laps)) ∧ Below w.heap.size w w8) ∧ (w8.cell? ⟨w6.heap.size, 0, none⟩ = some (.slice (some ⟨x1, 0, none⟩) n1 n1) ∧ w8.cell? ⟨w6.heap.size, 1, none⟩ = some (.slice (some ⟨x2, 0, none⟩) n2 n2) ∧ w8.cell? ⟨w6.heap.size, 2, none⟩ = some (.int .i64 d.last) ∧ w8.cell? ⟨w6.heap.size, 3, none⟩ = some (.int .i64 d.laps)) ∧ Below w6.heap.size w6 w8 := by with_reducible assumption
        have HS8 := Lib.hid hS8
        have O9 := Lib.hid o9
        clear hS7 o9 hg9
        go_wp2_with fail
        refine (eqInt64S_any A9 A0 l.length l.length q9 q0 l l _ O9.out.sl (O0.out.later (Below.via HS8.out.2.2 HB6.out HB6.out.size)).sl (by omega) (by omega)).mono ?_
        rintro e w9 ⟨rfl, hb9⟩
        have hS7 := And.intro (sob_keep HS8.out hb9) (Below.refl w9.heap.size w9)
        have O99 := Lib.hid (O9.out.later hb9)
        clear hb9 O9 HS8 hS8
        go_wp2_with fail
        go_region_held3 (fun W => (((W.cell? ⟨w.heap.size, 0, none⟩ = some (.int .i64 r.p) ∧ W.cell? ⟨w.heap.size, 1, none⟩ = some (.int .i64 r.s) ∧ W.cell? ⟨w.heap.size, 2, none⟩ = some (.bool r.st) ∧ W.cell? ⟨w.heap.size, 3, none⟩ = some (.bool r.sk) ∧ W.cell? ⟨w.heap.size, 4, none⟩ = some (.bool r.re) ∧ W.cell? ⟨w.heap.size, 5, none⟩ = some (.bool r.fe) ∧ W.cell? ⟨w.heap.size, 6, none⟩ = some (.bool r.ag) ∧ W.cell? ⟨w.heap.size, 7, none⟩ = some (.int .i64 r.ca) ∧ W.cell? ⟨w.heap.size, 8, none⟩ = some (.int .i64 r.sl)) ∧ (W.cell? ⟨w.heap.size + 1, 0, none⟩ = some (.slice A1 n1 c1) ∧ W.cell? ⟨w.heap.size + 1, 1, none⟩ = some (.slice A2 n2 c2) ∧ W.cell? ⟨w.heap.size + 1, 2, none⟩ = some (.int .i64 d.last) ∧ W.cell? ⟨w.heap.size + 1, 3, none⟩ = some (.int .i64 d.laps)) ∧ Below w.heap.size w W) ∧ (W.cell? ⟨w6.heap.size, 0, none⟩ = some (.slice (some ⟨x1, 0, none⟩) n1 n1) ∧ W.cell? ⟨w6.heap.size, 1, none⟩ = some (.slice (some ⟨x2, 0, none⟩) n2 n2) ∧ W.cell? ⟨w6.heap.size, 2, none⟩ = some (.int .i64 d.last) ∧ W.cell? ⟨w6.heap.size, 3, none⟩ = some (.int .i64 d.laps)) ∧ Below w6.heap.size w6 W) ∧ Below w9.heap.size w9 W) (first | (with_reducible exact sob3_drew hS7) | (with_reducible exact sob3_keep (by with_reducible assumption) (by with_reducible assumption)) | (with_reducible assumption)) (first
          | (go_at_call 11; (with_reducible refine Calls.mono (toSown_own A1 A2 n1 c1 n2 c2 d _ ?_ ?_ h1 h2) ?_); (exact HS1.out.later (by with_reducible exact And.right (And.right (And.left (And.left (by with_reducible assumption)))))); (exact HS2.out.later (by with_reducible exact And.right (And.right (And.left (And.left (by with_reducible assumption)))))); rintro e w10 ⟨y1, y2, rfl, q1, q2, hb10⟩)
          | (go_at_call 13; (with_reducible refine Calls.mono (eqSown_same [.slice (some ⟨x1, 0, none⟩) n1 n1, .slice (some ⟨x2, 0, none⟩) n2 n2, .int .i64 d.last, .int .i64 d.laps] [.slice (some ⟨y1, 0, none⟩) n1 n1, .slice (some ⟨y2, 0, none⟩) n2 n2, .int .i64 d.last, .int .i64 d.laps] d _ ?_ ?_) ?_); (exact ⟨_, _, _, _, _, _, rfl, (T1.out.later (by with_reducible exact And.right (And.right (And.left (by with_reducible assumption))))).sl, by omega, (T2.out.later (by with_reducible exact And.right (And.right (And.left (by with_reducible assumption))))).sl, by omega⟩); (exact ⟨_, _, _, _, _, _, rfl, q1, by omega, q2, by omega⟩); rintro e w11 ⟨rfl, hb11⟩))
        all_goals
          have hS11 : (((w11.cell? ⟨w.heap.size, 0, none⟩ = some (.int .i64 r.p) ∧ w11.cell? ⟨w.heap.size, 1, none⟩ = some (.int .i64 r.s) ∧ w11.cell? ⟨w.heap.size, 2, none⟩ = some (.bool r.st) ∧ w11.cell? ⟨w.heap.size, 3, none⟩ = some (.bool r.sk) ∧ w11.cell? ⟨w.heap.size, 4, none⟩ = some (.bool r.re) ∧ w11.cell? ⟨w.heap.size, 5, none⟩ = some (.bool r.fe) ∧ w11.cell? ⟨w.heap.size, 6, none⟩ = some (.bool r.ag) ∧ w11.cell? ⟨w.heap.size, 7, none⟩ = some (.int .i64 r.ca) ∧ w11.cell? ⟨w.heap.size, 8, none⟩ = some (.int .i64 r.sl)) ∧ (w11.cell? ⟨w.heap.size + 1, 0, none⟩ = some (.slice A1 n1 c1) ∧ w11.cell? ⟨w.heap.size + 1, 1, none⟩ = some (.slice A2 n2 c2) ∧ w11.cell? ⟨w.heap.size + 1, 2, none⟩ = some (.int .i64 d.last) ∧ w11.cell? ⟨w.heap.size + 1, 3, none⟩ = some (.int .i64 d.laps)) ∧ Below w.heap.size w w11) ∧ (w11.cell? ⟨w6.heap.size, 0, none⟩ = some (.slice (some ⟨x1, 0, none⟩) n1 n1) ∧ w11.cell? ⟨w6.heap.size, 1, none⟩ = some (.slice (some ⟨x2, 0, none⟩) n2 n2) ∧ w11.cell? ⟨w6.heap.size, 2, none⟩ = some (.int .i64 d.last) ∧ w11.cell? ⟨w6.heap.size, 3, none⟩ = some (.int .i64 d.laps)) ∧ Below w6.heap.size w6 w11) ∧ Below w9.heap.size w9 w11 := by with_reducible assumption
          have HS11 := Lib.hid hS11
          clear hS7 hS11
          obtain ⟨⟨-, ⟨u0, u1, u2, u3⟩, hB6⟩, hB9⟩ := HS11.out
          have M1 := (T1.out.later hB6).own
          have M2 := (T2.out.later hB6).own
          have O9b := Lib.hid (O99.out.later hB9)
          have hz6 := hB6.size
          obtain ⟨gx1, gx2, gx3, gx4, gx5⟩ := HGX.out
          have D11 : Below w5.heap.size w5 w11 := Below.via hB6 HB6.out HB6.out.size
          have h65 := HB6.out.size
          have hg96 := HG9.out
          clear hB6 hB9
          go_wp2_with fail
          refine (markSown_any _ _ n1 n1 n2 n2 x1 x2 d.pits d.stores d.last d.laps 1 _ M1 M2 (by omega) (by omega) gx3 h1 h2 (by omega) (by omega)).mono ?_
          rintro e w12 ⟨wm, rfl, -, -, hgm, hgm2⟩
          have D12 : Below w5.heap.size w5 w12 := grown_below (grown_below (Below.alloc D11 D11.size _) hgm (by omega) (Nat.le_trans D11.size (sizeAlloc _ _))) hgm2 (by omega) (Nat.le_trans (Nat.le_trans D11.size (sizeAlloc _ _)) hgm.size)
          have P9 := ((O9b.out.later (boxed_ _ _)).apart hgm (fun _ => by omega)).apart hgm2 (fun _ => by omega)
          have HD12 := Lib.hid D12
          have HP9 := Lib.hid P9
          clear M1 M2 u0 u1 u2 u3 hgm hgm2 D11 D12 P9 gx1 gx2 gx3 gx4 gx5
          go_wp2_with fail
          refine (eqInt64S_any A9 A0 l.length l.length q9 q0 l l _ HP9.out.sl (O0.out.later HD12.out).sl (by omega) (by omega)).mono ?_
          rintro e w13 ⟨rfl, hb13⟩
          have D13 : Below w5.heap.size w5 w13 := Below.via hb13 HD12.out HD12.out.size
          have P9' := (HP9.out.later hb13).own
          have HD13 := Lib.hid D13
          clear hb13 D13
          go_wp2_with fail
          refine (markInt64S_any A9 l.length q9 g9 l 1 _ P9' (by omega) (by omega) (by omega)).mono ?_
          rintro e w14 ⟨rfl, r14, hgr14⟩
          have D14 : Below w5.heap.size w5 w14 := grown_below HD13.out hgr14 (by omega) HD13.out.size
          have O14 : Hid (OwnV w14 g0 2 1 A0 l.length (l.map (Value.int .i64))) := (O0.out.later HD13.out).apart hgr14 (fun h => by have := O0.out.lt h; omega)
          have R14 := Lib.hid r14
          have hS14 := so_keep HS5.out D14
          have hS7 := And.intro hS14 (Below.refl w14.heap.size w14)
          clear r14 hgr14 P9' D14 hS14
          go_wp2_with fail
          refine (heldInt64S_any A9 l.length q9 1 _ R14.out.sl (by omega) (by omega) (by omega)).mono ?_
          rintro e w_ ⟨rfl, rfl⟩
          go_wp2_with fail
          go_region_held3 (fun W => ((W.cell? ⟨w.heap.size, 0, none⟩ = some (.int .i64 r.p) ∧ W.cell? ⟨w.heap.size, 1, none⟩ = some (.int .i64 r.s) ∧ W.cell? ⟨w.heap.size, 2, none⟩ = some (.bool r.st) ∧ W.cell? ⟨w.heap.size, 3, none⟩ = some (.bool r.sk) ∧ W.cell? ⟨w.heap.size, 4, none⟩ = some (.bool r.re) ∧ W.cell? ⟨w.heap.size, 5, none⟩ = some (.bool r.fe) ∧ W.cell? ⟨w.heap.size, 6, none⟩ = some (.bool r.ag) ∧ W.cell? ⟨w.heap.size, 7, none⟩ = some (.int .i64 r.ca) ∧ W.cell? ⟨w.heap.size, 8, none⟩ = some (.int .i64 r.sl)) ∧ (W.cell? ⟨w.heap.size + 1, 0, none⟩ = some (.slice A1 n1 c1) ∧ W.cell? ⟨w.heap.size + 1, 1, none⟩ = some (.slice A2 n2 c2) ∧ W.cell? ⟨w.heap.size + 1, 2, none⟩ = some (.int .i64 d.last) ∧ W.cell? ⟨w.heap.size + 1, 3, none⟩ = some (.int .i64 d.laps)) ∧ Below w.heap.size w W) ∧ Below w14.heap.size w14 W) (first | (with_reducible exact so3_drew hS7) | (with_reducible exact so3_keep (by with_reducible assumption) (by with_reducible assumption)) | (with_reducible assumption)) (first
            | (go_at_call 10; (with_reducible refine Calls.mono (toRules_any r _) ?_); rintro e w15 ⟨rfl, hb15⟩)
            | (go_at_call 11; (with_reducible refine Calls.mono (toSown_own A1 A2 n1 c1 n2 c2 d _ ?_ ?_ h1 h2) ?_); (exact HS1.out.later (by with_reducible exact And.right (And.right (And.left (by with_reducible assumption))))); (exact HS2.out.later (by with_reducible exact And.right (And.right (And.left (by with_reducible assumption))))); rintro e w16 ⟨y1, y2, rfl, q1, q2, hb16⟩)
            | (go_at_call 17; (with_reducible refine Calls.mono (CapturePits_any r _ _ n1 n1 n2 n2 d pl l code _ ?_ ?_ (Nat.le_refl _) (by omega) hsz HE.out) ?_); (exact q1.later (by (repeat' (first | (with_reducible exact Below.refl _ _) | (with_reducible assumption) | (with_reducible refine Below.alloc ?_ ?_ _) | (with_reducible refine Below.drew ?_) | (with_reducible refine belowDrewN ?_ _) | (with_reducible refine Below.setCell ?_ ?_ _) | (with_reducible refine Below.via (by with_reducible assumption) ?_ ?_) | (with_reducible refine Below.viaD (by with_reducible assumption) ?_ ?_) | (with_reducible exact Below.size (by with_reducible assumption)) | go_size | (with_reducible refine Nat.le_trans ?_ (Below.size (by with_reducible assumption))) | (with_reducible refine Nat.le_trans ?_ (sizeAlloc _ _)) | (with_reducible refine Nat.le_trans ?_ (sizeSet _ _ _)) | (with_reducible refine Nat.le_trans ?_ (sizeDrew _)))))); (exact q2.later (by (repeat' (first | (with_reducible exact Below.refl _ _) | (with_reducible assumption) | (with_reducible refine Below.alloc ?_ ?_ _) | (with_reducible refine Below.drew ?_) | (with_reducible refine belowDrewN ?_ _) | (with_reducible refine Below.setCell ?_ ?_ _) | (with_reducible refine Below.via (by with_reducible assumption) ?_ ?_) | (with_reducible refine Below.viaD (by with_reducible assumption) ?_ ?_) | (with_reducible exact Below.size (by with_reducible assumption)) | go_size | (with_reducible refine Nat.le_trans ?_ (Below.size (by with_reducible assumption))) | (with_reducible refine Nat.le_trans ?_ (sizeAlloc _ _)) | (with_reducible refine Nat.le_trans ?_ (sizeSet _ _ _)) | (with_reducible refine Nat.le_trans ?_ (sizeDrew _)))))); rintro e w17 ⟨A17, g17, q17, rfl, hg17, o17, hb17⟩))
          all_goals
            have hS17 : ((w17.cell? ⟨w.heap.size, 0, none⟩ = some (.int .i64 r.p) ∧ w17.cell? ⟨w.heap.size, 1, none⟩ = some (.int .i64 r.s) ∧ w17.cell? ⟨w.heap.size, 2, none⟩ = some (.bool r.st) ∧ w17.cell? ⟨w.heap.size, 3, none⟩ = some (.bool r.sk) ∧ w17.cell? ⟨w.heap.size, 4, none⟩ = some (.bool r.re) ∧ w17.cell? ⟨w.heap.size, 5, none⟩ = some (.bool r.fe) ∧ w17.cell? ⟨w.heap.size, 6, none⟩ = some (.bool r.ag) ∧ w17.cell? ⟨w.heap.size, 7, none⟩ = some (.int .i64 r.ca) ∧ w17.cell? ⟨w.heap.size, 8, none⟩ = some (.int .i64 r.sl)) ∧ (w17.cell? ⟨w.heap.size + 1, 0, none⟩ = some (.slice A1 n1 c1) ∧ w17.cell? ⟨w.heap.size + 1, 1, none⟩ = some (.slice A2 n2 c2) ∧ w17.cell? ⟨w.heap.size + 1, 2, none⟩ = some (.int .i64 d.last) ∧ w17.cell? ⟨w.heap.size + 1, 3, none⟩ = some (.int .i64 d.laps)) ∧ Below w.heap.size w w17) ∧ Below w14.heap.size w14 w17 := by with_reducible assumption
            have HS17 := Lib.hid hS17
            have O17 := Lib.hid o17
            clear hS7 hS17 o17
            go_wp2_with fail
            refine (eqInt64S_any A17 A0 l.length l.length q17 q0 l l _ O17.out.sl (O14.out.later HS17.out.2).sl (by omega) (by omega)).mono ?_
            rintro e w18 ⟨rfl, hb18⟩
            go_wp2_with fail
            refine (heldInt64S_any A9 l.length q9 1 _ (((R14.out.ownV.later HS17.out.2).later hb18).sl) (by omega) (by omega) (by omega)).mono ?_
            rintro e w_ ⟨rfl, rfl⟩
            go_wp2_with fail
            go_ret
            exact ⟨rfl, Below.via hb18 HS17.out.1.2.2 HS17.out.1.2.2.size⟩
end Go.Proofs.Ytdkljnlkfkjdpaa
