/- EndValue: both functions. Conditions: lengths below 2^20. -/
import Derived.Test.YtdndhbgompmmeaaEnd1b
namespace Go.Proofs.Ytdndhbgompmmeaa
set_option linter.unusedSimpArgs false
set_option linter.unusedVariables false
open Go.RowKit

theorem evR_f {r : Ru} {d : PositionD} (h : okPos r d = false) : evR r d = (0, 1) := by rw [evR, h]; rfl
theorem evR_t {r : Ru} {d : PositionD} {P pl : Nat} (h : okPos r d = true) (hP : r.p = (P : Int)) (hpl : d.player = (pl : Int)) (hp : pl < 2) : evR r d = (sideV d.pits P pl - sideV d.pits P (1 - pl), 0) := by
  rw [evR, h, if_pos rfl, hP, hpl, Int.toNat_natCast, Int.toNat_natCast, show (1 - (pl : Int)).toNat = 1 - pl from by omega]
theorem pairII {x x' z z' : Int} (h : (x', z') = (x, z)) : x' = x ∧ z' = z := by
  injection h with h1 h2
  exact ⟨h1, h2⟩
set_option maxRecDepth 100000 in
set_option maxHeartbeats 4000000 in
theorem l15End_quiet (r : Ru) (P pl b o b2 o2 : Nat) (A1 A2 : Option Addr) (n1 c1 n2 c2 : Nat) (d : PositionD) (w : World) (hr : RuAt w b o r) (hp : PosAt w b2 o2 A1 n1 c1 A2 n2 c2 d) (hP : r.p = (P : Int)) (h2 : 2 ≤ P) (h8 : P ≤ 8) (hn : d.pits.length = 2 * P) (hd : d.player = (pl : Int)) (hpl : pl < 2) (ho : okL d.pits = true) :
    Calls Try.prog 68 #[.pointer (some ⟨b, o, none⟩), .pointer (some ⟨b2, o2, none⟩)] w fun e w' => e = .returned (.int .i64 (sideV d.pits P pl - sideV d.pits P (1 - pl))) ∧ ∃ m, w' = w.drewN m := by
  obtain ⟨p0, p1, p2, s1, s2⟩ := hp
  rw [hd] at p2
  have hzl := s1.ints
  obtain rfl : n1 = 2 * P := by omega
  have v0 := sideV_bd2 (pl := 0) ho hn (by omega) h8
  have v1 := sideV_bd2 (pl := 1) ho hn (by omega) h8
  have C0 : Hid (∀ j, Calls Try.prog 84 #[.pointer (some ⟨b, o, none⟩), .slice A1 (2 * P) c1, .int .i64 0] (w.drewN j) fun e w'' => e = .returned (.int .i64 (sideV d.pits P 0)) ∧ w.drewN j = w'') := fun j => l04Side_any r P 0 b o A1 (2 * P) c1 d.pits (w.drewN j) (hr.drewN j) (s1.drewN j) hP h2 h8 rfl (by omega) ho
  have C1 : Hid (∀ j, Calls Try.prog 84 #[.pointer (some ⟨b, o, none⟩), .slice A1 (2 * P) c1, .int .i64 1] (w.drewN j) fun e w'' => e = .returned (.int .i64 (sideV d.pits P 1)) ∧ w.drewN j = w'') := fun j => l04Side_any r P 1 b o A1 (2 * P) c1 d.pits (w.drewN j) (hr.drewN j) (s1.drewN j) hP h2 h8 rfl (by omega) ho
  clear hr hP s1 s2 hn
  revert v0 v1 C0 C1
  have hpp : pl = 0 ∨ pl = 1 := by omega
  have hE : ∀ y0 y1 : Int, sideV d.pits P 0 = y0 → sideV d.pits P 1 = y1 → sideV d.pits P pl - sideV d.pits P (1 - pl) = (if pl = 0 then y0 - y1 else y1 - y0) := by
    intro y0 y1 h0 h1
    rcases hpp with rfl | rfl
    · rw [if_pos rfl, h0, h1]
    · rw [if_neg (by omega), h0, h1]
  generalize hy0 : sideV d.pits P 0 = y0
  generalize hy1 : sideV d.pits P 1 = y1
  intro v0 v1 C0 C1
  rw [hE y0 y1 hy0 hy1]
  clear hE hy0 hy1 hd ho hzl
  have hw0 : IntKind.i64.wrap 0 = 0 := rfl
  have hw1 : IntKind.i64.wrap 1 = 1 := rfl
  have hw2 : IntKind.i64.wrap (y0 - y1) = y0 - y1 := IntWalk.i64_in _ (by omega)
  have hw3 : IntKind.i64.wrap (y1 - y0) = y1 - y0 := IntWalk.i64_in _ (by omega)
  rcases hpp with rfl | rfl
  all_goals
    go_enter Try.func68, Try.ntmps68
    go_wp2_with fail
    refine wp_region_quiet_lit (by kernel_rfl) (by kernel_rfl) ?_
    refine WQ.of ?_
    repeat (refine WQ.step (fun K hK => ?_); go_simp; first | (refine hK _ ?_; clear hK K) | (apply Exists.intro; refine ⟨fun _ => ?_, hK _ ?_⟩; ((first | (go_at_call 84; (with_reducible exact quiet_l (C0.out _))) | (go_at_call 84; (with_reducible exact quiet_l (C1.out _))))); clear hK K))
    refine WQ.nil ?_
    intro _ hw'
    obtain ⟨nq, hw''⟩ := hw'
    subst hw''
    go_wp2_with fail
    go_ret
    exact ⟨by first | rfl | simp, _, rfl⟩
set_option maxRecDepth 100000 in
set_option maxHeartbeats 4000000 in
theorem EndValue_any (r : Ru) (A1 A2 : Option Addr) (n1 c1 n2 c2 : Nat) (d : PositionD) (w : World) (s1 : Sl w w.heap.size 1 A1 n1 (d.pits.map (Value.int .i64))) (s2 : Sl w w.heap.size 1 A2 n2 (d.stores.map (Value.int .i64))) (hc : n1 ≤ c1) (hcm : c1 ≤ 9223372036854775807) (hsz : szPosition d ≤ 1048576) (v code : Int) (hr : evR r d = (v, code)) :
    Calls Try.prog 43 #[.agg #[.int .i64 r.p, .int .i64 r.s, .bool r.st, .bool r.sk, .bool r.re, .bool r.fe, .bool r.ag, .int .i64 r.ca, .int .i64 r.sl], .agg #[.slice A1 n1 c1, .slice A2 n2 c2, .int .i64 d.player]] w fun e w' => e = .returned (.tuple #[.int .i64 v, .int .i64 code]) ∧ Below w.heap.size w w' := by
  have hl1 : n1 ≤ 1048576 := by have := s1.ints; unfold szPosition at hsz; omega
  have hl2 : n2 ≤ 1048576 := by have := s2.ints; unfold szPosition at hsz; omega
  have S1 := Lib.hid s1
  have HX := Lib.hid (show XPosition w [.slice A1 n1 c1, .slice A2 n2 c2, .int .i64 d.player] d from ⟨_, _, _, _, _, _, rfl, s1, by omega, s2, by omega⟩)
  clear s2
  cases q : okPos r d
  case false =>
    obtain ⟨rfl, rfl⟩ := pairII (hr.symm.trans (evR_f q))
    clear hr s1
    go_enter Try.func43, Try.ntmps43
    go_wp2_with fail
    refine (ValidPosition_any r [.slice A1 n1 c1, .slice A2 n2 c2, .int .i64 d.player] d _ ((HX.out.boxed _).boxed _) hsz).mono ?_
    rw [q]
    rintro e w1 ⟨rfl, hb1⟩
    go_wp2_with fail
    go_ret2
    exact ⟨rfl, by (repeat' (first | (with_reducible exact Below.refl _ _) | (with_reducible assumption) | (with_reducible refine Below.alloc ?_ ?_ _) | (with_reducible refine Below.drew ?_) | (with_reducible refine belowDrewN ?_ _) | (with_reducible refine Below.setCell ?_ ?_ _) | (with_reducible refine Below.via (by with_reducible assumption) ?_ ?_) | (with_reducible refine Below.viaD (by with_reducible assumption) ?_ ?_) | (with_reducible exact Below.size (by with_reducible assumption)) | go_size | (with_reducible refine Nat.le_trans ?_ (Below.size (by with_reducible assumption))) | (with_reducible refine Nat.le_trans ?_ (sizeAlloc _ _)) | (with_reducible refine Nat.le_trans ?_ (sizeSet _ _ _)) | (with_reducible refine Nat.le_trans ?_ (sizeDrew _))))⟩
  case true =>
    obtain ⟨P, pl, hP, h2, h8, hn, _, hd, hpl, ho, _, _⟩ := okPos_of q
    obtain ⟨rfl, rfl⟩ := pairII (hr.symm.trans (evR_t q hP hd hpl))
    have hn1 : n1 = 2 * P := by have := s1.ints; omega
    have HP := Lib.hid hP
    have HD := Lib.hid hd
    have HN := Lib.hid hn1
    clear hr s1 hP hd hn hn1
    go_enter Try.func43, Try.ntmps43
    go_wp2_with fail
    refine (ValidPosition_any r [.slice A1 n1 c1, .slice A2 n2 c2, .int .i64 d.player] d _ ((HX.out.boxed _).boxed _) hsz).mono ?_
    rw [q]
    rintro e w1 ⟨rfl, hb1⟩
    obtain ⟨hc1, hf1, hl1', hz1⟩ := bfacts hb1
    have B1 := below_boxed (below_boxed hb1)
    go_wp2_with fail
    rw [HD.out]
    refine (endValue_any r P pl A1 A2 n1 c1 n2 c2 d.pits _ (S1.out.later B1) HP.out h2 h8 HN.out hc hcm hpl ho).mono ?_
    rintro e w2 ⟨rfl, hb2⟩
    go_wp2_with fail
    go_ret2
    exact ⟨rfl, by (repeat' (first | (with_reducible exact Below.refl _ _) | (with_reducible assumption) | (with_reducible refine Below.alloc ?_ ?_ _) | (with_reducible refine Below.drew ?_) | (with_reducible refine belowDrewN ?_ _) | (with_reducible refine Below.setCell ?_ ?_ _) | (with_reducible refine Below.via (by with_reducible assumption) ?_ ?_) | (with_reducible refine Below.viaD (by with_reducible assumption) ?_ ?_) | (with_reducible exact Below.size (by with_reducible assumption)) | go_size | (with_reducible refine Nat.le_trans ?_ (Below.size (by with_reducible assumption))) | (with_reducible refine Nat.le_trans ?_ (sizeAlloc _ _)) | (with_reducible refine Nat.le_trans ?_ (sizeSet _ _ _)) | (with_reducible refine Nat.le_trans ?_ (sizeDrew _))))⟩
set_option maxRecDepth 100000 in
set_option maxHeartbeats 4000000 in
theorem sEndValue_any (r : Ru) (A1 A2 : Option Addr) (n1 c1 n2 c2 : Nat) (d : PositionD) (w : World) (s1 : Sl w w.heap.size 1 A1 n1 (d.pits.map (Value.int .i64))) (s2 : Sl w w.heap.size 1 A2 n2 (d.stores.map (Value.int .i64))) (hsz : szPosition d ≤ 1048576) (v code : Int) (hr : evR r d = (v, code)) :
    Calls Try.prog 40 #[.agg #[.int .i64 r.p, .int .i64 r.s, .bool r.st, .bool r.sk, .bool r.re, .bool r.fe, .bool r.ag, .int .i64 r.ca, .int .i64 r.sl], .agg #[.slice A1 n1 c1, .slice A2 n2 c2, .int .i64 d.player]] w fun e w' => e = .returned (.tuple #[.int .i64 v, .int .i64 code]) ∧ Below w.heap.size w w' := by
  have hB : Below w.heap.size w ((w.alloc (.cells #[.int .i64 r.p, .int .i64 r.s, .bool r.st, .bool r.sk, .bool r.re, .bool r.fe, .bool r.ag, .int .i64 r.ca, .int .i64 r.sl] 44)).alloc (.cells #[.slice A1 n1 c1, .slice A2 n2 c2, .int .i64 d.player] 68)) := below_boxed (w := w) (boxed_ _ _)
  have RA : RuAt ((w.alloc (.cells #[.int .i64 r.p, .int .i64 r.s, .bool r.st, .bool r.sk, .bool r.re, .bool r.fe, .bool r.ag, .int .i64 r.ca, .int .i64 r.sl] 44)).alloc (.cells #[.slice A1 n1 c1, .slice A2 n2 c2, .int .i64 d.player] 68)) w.heap.size 0 r := (RuAt.box _ _ _).later (boxed_ _ _)
  have PK := Blk.new (w.alloc (.cells #[.int .i64 r.p, .int .i64 r.s, .bool r.st, .bool r.sk, .bool r.re, .bool r.fe, .bool r.ag, .int .i64 r.ca, .int .i64 r.sl] 44)) 68 #[.slice A1 n1 c1, .slice A2 n2 c2, .int .i64 d.player]
  have PA : PosAt ((w.alloc (.cells #[.int .i64 r.p, .int .i64 r.s, .bool r.st, .bool r.sk, .bool r.re, .bool r.fe, .bool r.ag, .int .i64 r.ca, .int .i64 r.sl] 44)).alloc (.cells #[.slice A1 n1 c1, .slice A2 n2 c2, .int .i64 d.player] 68)) (w.heap.size + 1) 0 A1 n1 c1 A2 n2 c2 d := by
    rw [World.size_alloc] at PK
    exact ⟨PK.cell 0, PK.cell 1, PK.cell 2, s1.later hB, s2.later hB⟩
  have HRA := Lib.hid RA
  have HPA := Lib.hid PA
  clear RA PK PA s2 hB
  cases q : okPos r d
  case false =>
    obtain ⟨rfl, rfl⟩ := pairII (hr.symm.trans (evR_f q))
    clear hr s1
    go_enter Try.func40, Try.ntmps40
    go_wp2_with fail
    refine (l04Ok_quiet r w.heap.size 0 (w.heap.size + 1) 0 A1 A2 n1 c1 n2 c2 d _ HRA.out HPA.out hsz).mono ?_
    rw [q]
    rintro e w1 ⟨rfl, m, rfl⟩
    go_wp2_with fail
    go_ret2
    exact ⟨rfl, by (repeat' (first | (with_reducible exact Below.refl _ _) | (with_reducible assumption) | (with_reducible refine Below.alloc ?_ ?_ _) | (with_reducible refine Below.drew ?_) | (with_reducible refine belowDrewN ?_ _) | (with_reducible refine Below.setCell ?_ ?_ _) | (with_reducible refine Below.via (by with_reducible assumption) ?_ ?_) | (with_reducible refine Below.viaD (by with_reducible assumption) ?_ ?_) | (with_reducible exact Below.size (by with_reducible assumption)) | go_size | (with_reducible refine Nat.le_trans ?_ (Below.size (by with_reducible assumption))) | (with_reducible refine Nat.le_trans ?_ (sizeAlloc _ _)) | (with_reducible refine Nat.le_trans ?_ (sizeSet _ _ _)) | (with_reducible refine Nat.le_trans ?_ (sizeDrew _))))⟩
  case true =>
    obtain ⟨P, pl, hP, h2, h8, hn, _, hd, hpl, ho, _, _⟩ := okPos_of q
    obtain ⟨rfl, rfl⟩ := pairII (hr.symm.trans (evR_t q hP hd hpl))
    have HP := Lib.hid hP
    have HD := Lib.hid hd
    have HN := Lib.hid hn
    clear hr s1 hP hd hn
    go_enter Try.func40, Try.ntmps40
    go_wp2_with fail
    refine (l04Ok_quiet r w.heap.size 0 (w.heap.size + 1) 0 A1 A2 n1 c1 n2 c2 d _ HRA.out HPA.out hsz).mono ?_
    rw [q]
    rintro e w1 ⟨rfl, m, rfl⟩
    go_wp2_with fail
    refine (l15End_quiet r P pl w.heap.size 0 (w.heap.size + 1) 0 A1 A2 n1 c1 n2 c2 d _ (HRA.out.drewN m) (HPA.out.drewN m) HP.out h2 h8 HN.out HD.out hpl ho).mono ?_
    rintro e w2 ⟨rfl, m2, rfl⟩
    go_wp2_with fail
    go_ret2
    exact ⟨rfl, by (repeat' (first | (with_reducible exact Below.refl _ _) | (with_reducible assumption) | (with_reducible refine Below.alloc ?_ ?_ _) | (with_reducible refine Below.drew ?_) | (with_reducible refine belowDrewN ?_ _) | (with_reducible refine Below.setCell ?_ ?_ _) | (with_reducible refine Below.via (by with_reducible assumption) ?_ ?_) | (with_reducible refine Below.viaD (by with_reducible assumption) ?_ ?_) | (with_reducible exact Below.size (by with_reducible assumption)) | go_size | (with_reducible refine Nat.le_trans ?_ (Below.size (by with_reducible assumption))) | (with_reducible refine Nat.le_trans ?_ (sizeAlloc _ _)) | (with_reducible refine Nat.le_trans ?_ (sizeSet _ _ _)) | (with_reducible refine Nat.le_trans ?_ (sizeDrew _))))⟩
end Go.Proofs.Ytdndhbgompmmeaa
