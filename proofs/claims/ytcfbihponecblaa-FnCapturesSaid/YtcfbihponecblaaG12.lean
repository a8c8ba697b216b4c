/- Captures: valid seeds after sowing, owners and opposite pits. Conditions: lengths below 2^20. -/
import Derived.Test.YtcfbihponecblaaG11
import Derived.BigQuiet
import Derived.Deep.RegionHeld3
import Derived.Test.YtcfbihponecblaaG01
/- Valid positions, by both functions. Conditions: lengths below 2^20. -/
namespace Go.Proofs.Ytcfbihponecblaa
set_option linter.unusedSimpArgs false
set_option linter.unusedVariables false
open Go.RowKit

def okPos (r : Ru) (d : PositionD) : Bool := okRu r && decide ((d.pits.length : Int) = 2 * r.p) && decide (d.stores.length = 2) && inB d.player 0 1 && okL d.pits && okL d.stores && decide (psum d.pits d.pits.length + psum d.stores d.stores.length ≤ 96)
theorem okRu_of {r : Ru} (h : okRu r = true) : 2 ≤ r.p ∧ r.p ≤ 8 := by
  simp only [okRu, Bool.and_eq_true] at h
  exact inB_of h.1.1.1.1
theorem psum_all {zs : List Int} (h : okL zs = true) : 0 ≤ psum zs zs.length ∧ psum zs zs.length ≤ 96 * (zs.length : Int) := psum_bd (fun j hj => List.all_eq_true.1 h _ (getD_mem 0 hj))
theorem quiet_l {P : Program} {f : FuncId} {args : Array Value} {w : World} {n : Nat} {v : Value}
    (h : Calls P f args (w.drewN n) fun e w' => e = .returned v ∧ w.drewN n = w') : Calls P f args (w.drewN n) fun e w'' => e = .returned v ∧ ∃ m, w'' = w.drewN m :=
  h.mono fun _ _ ⟨he, hm⟩ => ⟨he, n, hm.symm⟩
theorem l02Ok_lit {r : Ru} {q : Bool} (hq : okRu r = q) (b o : Nat) (w : World) (h : RuAt w b o r) : Calls Try.prog 39 #[.pointer (some ⟨b, o, none⟩)] w fun e w' => e = .returned (.bool q) ∧ w = w' := by
  rw [← hq]; exact l02Ok_any r b o w h
theorem l00In_lit' {n a b : Int} {r : Bool} (h : inB n a b = r) (w : World) : Calls Try.prog 27 #[.int .i64 n, .int .i64 a, .int .i64 b] w fun e w' => e = .returned (.bool r) ∧ w = w' := by
  rw [← h]; exact l00In_any _ _ _ _
/-- A position that lies at a place. -/
structure PosAt (w : World) (b o : Nat) (A1 : Option Addr) (n1 c1 : Nat) (A2 : Option Addr) (n2 c2 : Nat) (d : PositionD) : Prop where
  c0 : w.cell? ⟨b, o, none⟩ = some (.slice A1 n1 c1)
  c1 : w.cell? ⟨b, o + 1, none⟩ = some (.slice A2 n2 c2)
  c2 : w.cell? ⟨b, o + 2, none⟩ = some (.int .i64 d.player)
  s1 : Sl w w.heap.size 1 A1 n1 (d.pits.map (Value.int .i64))
  s2 : Sl w w.heap.size 1 A2 n2 (d.stores.map (Value.int .i64))
theorem PosAt.later {w w' : World} {b o : Nat} {A1 A2 : Option Addr} {n1 c1 n2 c2 : Nat} {d : PositionD} (h : PosAt w b o A1 n1 c1 A2 n2 c2 d) (hb : Below w.heap.size w w') : PosAt w' b o A1 n1 c1 A2 n2 c2 d := by
  have hl := cell_lt h.c0
  exact ⟨(hb.cell (p := ⟨b, o, none⟩) hl).trans h.c0, (hb.cell (p := ⟨b, o + 1, none⟩) hl).trans h.c1, (hb.cell (p := ⟨b, o + 2, none⟩) hl).trans h.c2, h.s1.later hb, h.s2.later hb⟩
theorem PosAt.drewN {w : World} {b o : Nat} {A1 A2 : Option Addr} {n1 c1 n2 c2 : Nat} {d : PositionD} (h : PosAt w b o A1 n1 c1 A2 n2 c2 d) (k : Nat) : PosAt (w.drewN k) b o A1 n1 c1 A2 n2 c2 d := ⟨h.c0, h.c1, h.c2, h.s1.drewN k, h.s2.drewN k⟩

set_option maxRecDepth 100000 in
set_option maxHeartbeats 4000000 in
theorem ValidPosition_two (r : Ru) (cs : List Value) (d : PositionD) (w : World) (h : XPosition w cs d) (hsz : d.pits.length ≤ 1048576 ∧ d.stores.length ≤ 1048576) : Calls Try.prog 29 #[.agg #[.int .i64 r.p, .int .i64 r.s, .bool r.st, .bool r.sk, .bool r.re, .bool r.fe, .bool r.ag, .int .i64 r.ca, .int .i64 r.sl], .agg cs.toArray] w fun e w' => e = .returned (.bool (okPos r d)) ∧ Below w.heap.size w w' := by
  obtain ⟨A1, n1, c1, A2, n2, c2, e, s1, l1, s2, l2⟩ := h
  subst e
  have e1 := s1.ints
  have e2 := s2.ints
  have q1 : n1 ≤ 1048576 := by omega
  have q2 : n2 ≤ 1048576 := by omega
  have S1 := Lib.hid s1
  have S2 := Lib.hid s2
  clear hsz s1 s2
  obtain ⟨q, hq⟩ : ∃ q, okPos r d = q := ⟨_, rfl⟩
  have HQ := Lib.hid hq
  clear hq
  rw [HQ.out]
  have E1 := Lib.hid e1
  have E2 := Lib.hid e2
  clear e1 e2
  cases g1 : okRu r
  all_goals have QR := Lib.hid g1
  case false =>
    obtain rfl : q = false := by
      rw [← HQ.out, okPos]; simp [g1]
    go_enter Try.func29, Try.ntmps29
    go_wp2_with (first | (go_at_call 41; refine (ValidRules_lit r _).mono ?_; rintro e w_ ⟨rfl, rfl⟩) | (go_at_call 28; refine (isPlayer_any _ _).mono ?_; rintro e w_ ⟨rfl, rfl⟩))
    all_goals
      go_ret
      exact ⟨by first | rfl | simp [*], by (repeat' (first | (with_reducible exact Below.refl _ _) | (with_reducible assumption) | (with_reducible refine Below.alloc ?_ ?_ _) | (with_reducible refine Below.drew ?_) | (with_reducible refine belowDrewN ?_ _) | (with_reducible refine Below.setCell ?_ ?_ _) | (with_reducible refine Below.via (by with_reducible assumption) ?_ ?_) | (with_reducible refine Below.viaD (by with_reducible assumption) ?_ ?_) | (with_reducible exact Below.size (by with_reducible assumption)) | go_size | (with_reducible refine Nat.le_trans ?_ (Below.size (by with_reducible assumption))) | (with_reducible refine Nat.le_trans ?_ (sizeAlloc _ _)) | (with_reducible refine Nat.le_trans ?_ (sizeSet _ _ _)) | (with_reducible refine Nat.le_trans ?_ (sizeDrew _))))⟩
  case true =>
    obtain ⟨b1, b2⟩ := okRu_of g1
    have hw : IntKind.i64.wrap (2 * r.p) = 2 * r.p := IntWalk.i64_in _ (by omega)
    by_cases g2 : (n1 : Int) = 2 * r.p
    case neg =>
      have g2b : ((n1 : Int) == 2 * r.p) = false := beq_eq_false_iff_ne.2 g2
      have g2c : ((n1 : Int) != 2 * r.p) = true := by rw [bne, g2b]; rfl
      obtain rfl : q = false := by
        rw [← HQ.out, okPos]; simp [g1, E1.out, g2]
      go_enter Try.func29, Try.ntmps29
      go_wp2_with (first | (go_at_call 41; refine (ValidRules_lit r _).mono ?_; rintro e w_ ⟨rfl, rfl⟩) | (go_at_call 28; refine (isPlayer_any _ _).mono ?_; rintro e w_ ⟨rfl, rfl⟩))
      all_goals
        go_ret
        exact ⟨by first | rfl | simp [*], by (repeat' (first | (with_reducible exact Below.refl _ _) | (with_reducible assumption) | (with_reducible refine Below.alloc ?_ ?_ _) | (with_reducible refine Below.drew ?_) | (with_reducible refine belowDrewN ?_ _) | (with_reducible refine Below.setCell ?_ ?_ _) | (with_reducible refine Below.via (by with_reducible assumption) ?_ ?_) | (with_reducible refine Below.viaD (by with_reducible assumption) ?_ ?_) | (with_reducible exact Below.size (by with_reducible assumption)) | go_size | (with_reducible refine Nat.le_trans ?_ (Below.size (by with_reducible assumption))) | (with_reducible refine Nat.le_trans ?_ (sizeAlloc _ _)) | (with_reducible refine Nat.le_trans ?_ (sizeSet _ _ _)) | (with_reducible refine Nat.le_trans ?_ (sizeDrew _))))⟩
    case pos =>
      have g2b : ((n1 : Int) == 2 * r.p) = true := beq_iff_eq.2 g2
      have g2c : ((n1 : Int) != 2 * r.p) = false := by rw [bne, g2b]; rfl
      have G2 := Lib.hid g2
      clear g2
      by_cases g3 : n2 = 2
      case neg =>
        have g3b : ((n2 : Int) == 2) = false := beq_eq_false_iff_ne.2 (by omega)
        have g3c : ((n2 : Int) != 2) = true := by rw [bne, g3b]; rfl
        obtain rfl : q = false := by
          rw [← HQ.out, okPos]; simp [g1, E1.out, E2.out, g3]
        go_enter Try.func29, Try.ntmps29
        go_wp2_with (first | (go_at_call 41; refine (ValidRules_lit r _).mono ?_; rintro e w_ ⟨rfl, rfl⟩) | (go_at_call 28; refine (isPlayer_any _ _).mono ?_; rintro e w_ ⟨rfl, rfl⟩))
        all_goals
          go_ret
          exact ⟨by first | rfl | simp [*], by (repeat' (first | (with_reducible exact Below.refl _ _) | (with_reducible assumption) | (with_reducible refine Below.alloc ?_ ?_ _) | (with_reducible refine Below.drew ?_) | (with_reducible refine belowDrewN ?_ _) | (with_reducible refine Below.setCell ?_ ?_ _) | (with_reducible refine Below.via (by with_reducible assumption) ?_ ?_) | (with_reducible refine Below.viaD (by with_reducible assumption) ?_ ?_) | (with_reducible exact Below.size (by with_reducible assumption)) | go_size | (with_reducible refine Nat.le_trans ?_ (Below.size (by with_reducible assumption))) | (with_reducible refine Nat.le_trans ?_ (sizeAlloc _ _)) | (with_reducible refine Nat.le_trans ?_ (sizeSet _ _ _)) | (with_reducible refine Nat.le_trans ?_ (sizeDrew _))))⟩
      case pos =>
        subst g3
        cases g4 : inB d.player 0 1
        all_goals have QP := Lib.hid g4
        case false =>
          obtain rfl : q = false := by
            rw [← HQ.out, okPos]; simp [g4]
          go_enter Try.func29, Try.ntmps29
          go_wp2_with (first | (go_at_call 41; refine (ValidRules_lit r _).mono ?_; rintro e w_ ⟨rfl, rfl⟩) | (go_at_call 28; refine (isPlayer_any _ _).mono ?_; rintro e w_ ⟨rfl, rfl⟩))
          all_goals
            go_ret
            exact ⟨by first | rfl | simp [*], by (repeat' (first | (with_reducible exact Below.refl _ _) | (with_reducible assumption) | (with_reducible refine Below.alloc ?_ ?_ _) | (with_reducible refine Below.drew ?_) | (with_reducible refine belowDrewN ?_ _) | (with_reducible refine Below.setCell ?_ ?_ _) | (with_reducible refine Below.via (by with_reducible assumption) ?_ ?_) | (with_reducible refine Below.viaD (by with_reducible assumption) ?_ ?_) | (with_reducible exact Below.size (by with_reducible assumption)) | go_size | (with_reducible refine Nat.le_trans ?_ (Below.size (by with_reducible assumption))) | (with_reducible refine Nat.le_trans ?_ (sizeAlloc _ _)) | (with_reducible refine Nat.le_trans ?_ (sizeSet _ _ _)) | (with_reducible refine Nat.le_trans ?_ (sizeDrew _))))⟩
        case true =>
          obtain ⟨u1, x1, hr1⟩ : ∃ u x, sumR d.pits n1 = (u, x) := ⟨_, _, rfl⟩
          obtain ⟨u2, x2, hr2⟩ : ∃ u x, sumR d.stores 2 = (u, x) := ⟨_, _, rfl⟩
          have R1 := Lib.hid hr1
          have R2 := Lib.hid hr2
          unfold sumR at hr1 hr2
          cases g5 : okL d.pits
          case false =>
            rw [g5, if_neg (by simp)] at hr1
            obtain ⟨rfl, rfl⟩ := pairB hr1
            clear hr1 hr2
            obtain rfl : q = false := by
              rw [← HQ.out, okPos]; simp [g5]
            go_enter Try.func29, Try.ntmps29
            go_wp2_with (first | (go_at_call 41; refine (ValidRules_lit r _).mono ?_; rintro e w_ ⟨rfl, rfl⟩) | (go_at_call 28; refine (isPlayer_any _ _).mono ?_; rintro e w_ ⟨rfl, rfl⟩) | (go_at_call 42; (with_reducible refine Calls.mono (sumOf_any A1 n1 c1 d.pits _ ?_ q1 _ _ R1.out) ?_); (exact S1.out.later (by (repeat' (first | (with_reducible exact Below.refl _ _) | (with_reducible assumption) | (with_reducible refine Below.alloc ?_ ?_ _) | (with_reducible refine Below.drew ?_) | (with_reducible refine belowDrewN ?_ _) | (with_reducible refine Below.setCell ?_ ?_ _) | (with_reducible refine Below.via (by with_reducible assumption) ?_ ?_) | (with_reducible refine Below.viaD (by with_reducible assumption) ?_ ?_) | (with_reducible exact Below.size (by with_reducible assumption)) | go_size | (with_reducible refine Nat.le_trans ?_ (Below.size (by with_reducible assumption))) | (with_reducible refine Nat.le_trans ?_ (sizeAlloc _ _)) | (with_reducible refine Nat.le_trans ?_ (sizeSet _ _ _)) | (with_reducible refine Nat.le_trans ?_ (sizeDrew _)))))); rintro e w_ ⟨rfl, rfl⟩) | (go_at_call 42; (with_reducible refine Calls.mono (sumOf_any A2 2 c2 d.stores _ ?_ q2 _ _ R2.out) ?_); (exact S2.out.later (by (repeat' (first | (with_reducible exact Below.refl _ _) | (with_reducible assumption) | (with_reducible refine Below.alloc ?_ ?_ _) | (with_reducible refine Below.drew ?_) | (with_reducible refine belowDrewN ?_ _) | (with_reducible refine Below.setCell ?_ ?_ _) | (with_reducible refine Below.via (by with_reducible assumption) ?_ ?_) | (with_reducible refine Below.viaD (by with_reducible assumption) ?_ ?_) | (with_reducible exact Below.size (by with_reducible assumption)) | go_size | (with_reducible refine Nat.le_trans ?_ (Below.size (by with_reducible assumption))) | (with_reducible refine Nat.le_trans ?_ (sizeAlloc _ _)) | (with_reducible refine Nat.le_trans ?_ (sizeSet _ _ _)) | (with_reducible refine Nat.le_trans ?_ (sizeDrew _)))))); rintro e w_ ⟨rfl, rfl⟩))
            all_goals
              go_ret
              exact ⟨by first | rfl | simp [*], by (repeat' (first | (with_reducible exact Below.refl _ _) | (with_reducible assumption) | (with_reducible refine Below.alloc ?_ ?_ _) | (with_reducible refine Below.drew ?_) | (with_reducible refine belowDrewN ?_ _) | (with_reducible refine Below.setCell ?_ ?_ _) | (with_reducible refine Below.via (by with_reducible assumption) ?_ ?_) | (with_reducible refine Below.viaD (by with_reducible assumption) ?_ ?_) | (with_reducible exact Below.size (by with_reducible assumption)) | go_size | (with_reducible refine Nat.le_trans ?_ (Below.size (by with_reducible assumption))) | (with_reducible refine Nat.le_trans ?_ (sizeAlloc _ _)) | (with_reducible refine Nat.le_trans ?_ (sizeSet _ _ _)) | (with_reducible refine Nat.le_trans ?_ (sizeDrew _))))⟩
          case true =>
            rw [g5, if_pos rfl] at hr1
            obtain ⟨rfl, rfl⟩ := pairB hr1
            clear hr1
            cases g6 : okL d.stores
            case false =>
              rw [g6, if_neg (by simp)] at hr2
              obtain ⟨rfl, rfl⟩ := pairB hr2
              clear hr2
              obtain rfl : q = false := by
                rw [← HQ.out, okPos]; simp [g6]
              go_enter Try.func29, Try.ntmps29
              go_wp2_with (first | (go_at_call 41; refine (ValidRules_lit r _).mono ?_; rintro e w_ ⟨rfl, rfl⟩) | (go_at_call 28; refine (isPlayer_any _ _).mono ?_; rintro e w_ ⟨rfl, rfl⟩) | (go_at_call 42; (with_reducible refine Calls.mono (sumOf_any A1 n1 c1 d.pits _ ?_ q1 _ _ R1.out) ?_); (exact S1.out.later (by (repeat' (first | (with_reducible exact Below.refl _ _) | (with_reducible assumption) | (with_reducible refine Below.alloc ?_ ?_ _) | (with_reducible refine Below.drew ?_) | (with_reducible refine belowDrewN ?_ _) | (with_reducible refine Below.setCell ?_ ?_ _) | (with_reducible refine Below.via (by with_reducible assumption) ?_ ?_) | (with_reducible refine Below.viaD (by with_reducible assumption) ?_ ?_) | (with_reducible exact Below.size (by with_reducible assumption)) | go_size | (with_reducible refine Nat.le_trans ?_ (Below.size (by with_reducible assumption))) | (with_reducible refine Nat.le_trans ?_ (sizeAlloc _ _)) | (with_reducible refine Nat.le_trans ?_ (sizeSet _ _ _)) | (with_reducible refine Nat.le_trans ?_ (sizeDrew _)))))); rintro e w_ ⟨rfl, rfl⟩) | (go_at_call 42; (with_reducible refine Calls.mono (sumOf_any A2 2 c2 d.stores _ ?_ q2 _ _ R2.out) ?_); (exact S2.out.later (by (repeat' (first | (with_reducible exact Below.refl _ _) | (with_reducible assumption) | (with_reducible refine Below.alloc ?_ ?_ _) | (with_reducible refine Below.drew ?_) | (with_reducible refine belowDrewN ?_ _) | (with_reducible refine Below.setCell ?_ ?_ _) | (with_reducible refine Below.via (by with_reducible assumption) ?_ ?_) | (with_reducible refine Below.viaD (by with_reducible assumption) ?_ ?_) | (with_reducible exact Below.size (by with_reducible assumption)) | go_size | (with_reducible refine Nat.le_trans ?_ (Below.size (by with_reducible assumption))) | (with_reducible refine Nat.le_trans ?_ (sizeAlloc _ _)) | (with_reducible refine Nat.le_trans ?_ (sizeSet _ _ _)) | (with_reducible refine Nat.le_trans ?_ (sizeDrew _)))))); rintro e w_ ⟨rfl, rfl⟩))
              all_goals
                go_ret
                exact ⟨by first | rfl | simp [*], by (repeat' (first | (with_reducible exact Below.refl _ _) | (with_reducible assumption) | (with_reducible refine Below.alloc ?_ ?_ _) | (with_reducible refine Below.drew ?_) | (with_reducible refine belowDrewN ?_ _) | (with_reducible refine Below.setCell ?_ ?_ _) | (with_reducible refine Below.via (by with_reducible assumption) ?_ ?_) | (with_reducible refine Below.viaD (by with_reducible assumption) ?_ ?_) | (with_reducible exact Below.size (by with_reducible assumption)) | go_size | (with_reducible refine Nat.le_trans ?_ (Below.size (by with_reducible assumption))) | (with_reducible refine Nat.le_trans ?_ (sizeAlloc _ _)) | (with_reducible refine Nat.le_trans ?_ (sizeSet _ _ _)) | (with_reducible refine Nat.le_trans ?_ (sizeDrew _))))⟩
            case true =>
              rw [g6, if_pos rfl] at hr2
              obtain ⟨rfl, rfl⟩ := pairB hr2
              clear hr2
              have t1 := psum_all g5
              have t2 := psum_all g6
              rw [E1.out] at t1
              rw [E2.out] at t2
              obtain ⟨y1, hy1⟩ : ∃ y, psum d.pits n1 = y := ⟨_, rfl⟩
              obtain ⟨y2, hy2⟩ : ∃ y, psum d.stores 2 = y := ⟨_, rfl⟩
              have Y1 := Lib.hid hy1
              have Y2 := Lib.hid hy2
              rw [hy1] at t1 R1
              rw [hy2] at t2 R2
              clear hy1 hy2
              by_cases g7 : y1 + y2 ≤ 96
              case pos =>
                obtain rfl : q = true := by
                  rw [← HQ.out, okPos]; simp [g1, E1.out, E2.out, G2.out, g4, g5, g6, Y1.out, Y2.out, g7]
                go_enter Try.func29, Try.ntmps29
                go_wp2_with (first | (go_at_call 41; refine (ValidRules_lit r _).mono ?_; rintro e w_ ⟨rfl, rfl⟩) | (go_at_call 28; refine (isPlayer_any _ _).mono ?_; rintro e w_ ⟨rfl, rfl⟩) | (go_at_call 42; (with_reducible refine Calls.mono (sumOf_any A1 n1 c1 d.pits _ ?_ q1 _ _ R1.out) ?_); (exact S1.out.later (by (repeat' (first | (with_reducible exact Below.refl _ _) | (with_reducible assumption) | (with_reducible refine Below.alloc ?_ ?_ _) | (with_reducible refine Below.drew ?_) | (with_reducible refine belowDrewN ?_ _) | (with_reducible refine Below.setCell ?_ ?_ _) | (with_reducible refine Below.via (by with_reducible assumption) ?_ ?_) | (with_reducible refine Below.viaD (by with_reducible assumption) ?_ ?_) | (with_reducible exact Below.size (by with_reducible assumption)) | go_size | (with_reducible refine Nat.le_trans ?_ (Below.size (by with_reducible assumption))) | (with_reducible refine Nat.le_trans ?_ (sizeAlloc _ _)) | (with_reducible refine Nat.le_trans ?_ (sizeSet _ _ _)) | (with_reducible refine Nat.le_trans ?_ (sizeDrew _)))))); rintro e w_ ⟨rfl, rfl⟩) | (go_at_call 42; (with_reducible refine Calls.mono (sumOf_any A2 2 c2 d.stores _ ?_ q2 _ _ R2.out) ?_); (exact S2.out.later (by (repeat' (first | (with_reducible exact Below.refl _ _) | (with_reducible assumption) | (with_reducible refine Below.alloc ?_ ?_ _) | (with_reducible refine Below.drew ?_) | (with_reducible refine belowDrewN ?_ _) | (with_reducible refine Below.setCell ?_ ?_ _) | (with_reducible refine Below.via (by with_reducible assumption) ?_ ?_) | (with_reducible refine Below.viaD (by with_reducible assumption) ?_ ?_) | (with_reducible exact Below.size (by with_reducible assumption)) | go_size | (with_reducible refine Nat.le_trans ?_ (Below.size (by with_reducible assumption))) | (with_reducible refine Nat.le_trans ?_ (sizeAlloc _ _)) | (with_reducible refine Nat.le_trans ?_ (sizeSet _ _ _)) | (with_reducible refine Nat.le_trans ?_ (sizeDrew _)))))); rintro e w_ ⟨rfl, rfl⟩))
                all_goals
                  go_ret
                  exact ⟨by first | rfl | simp [*], by (repeat' (first | (with_reducible exact Below.refl _ _) | (with_reducible assumption) | (with_reducible refine Below.alloc ?_ ?_ _) | (with_reducible refine Below.drew ?_) | (with_reducible refine belowDrewN ?_ _) | (with_reducible refine Below.setCell ?_ ?_ _) | (with_reducible refine Below.via (by with_reducible assumption) ?_ ?_) | (with_reducible refine Below.viaD (by with_reducible assumption) ?_ ?_) | (with_reducible exact Below.size (by with_reducible assumption)) | go_size | (with_reducible refine Nat.le_trans ?_ (Below.size (by with_reducible assumption))) | (with_reducible refine Nat.le_trans ?_ (sizeAlloc _ _)) | (with_reducible refine Nat.le_trans ?_ (sizeSet _ _ _)) | (with_reducible refine Nat.le_trans ?_ (sizeDrew _))))⟩
              case neg =>
                obtain rfl : q = false := by
                  rw [← HQ.out, okPos]; simp [E1.out, E2.out, Y1.out, Y2.out, g7]
                go_enter Try.func29, Try.ntmps29
                go_wp2_with (first | (go_at_call 41; refine (ValidRules_lit r _).mono ?_; rintro e w_ ⟨rfl, rfl⟩) | (go_at_call 28; refine (isPlayer_any _ _).mono ?_; rintro e w_ ⟨rfl, rfl⟩) | (go_at_call 42; (with_reducible refine Calls.mono (sumOf_any A1 n1 c1 d.pits _ ?_ q1 _ _ R1.out) ?_); (exact S1.out.later (by (repeat' (first | (with_reducible exact Below.refl _ _) | (with_reducible assumption) | (with_reducible refine Below.alloc ?_ ?_ _) | (with_reducible refine Below.drew ?_) | (with_reducible refine belowDrewN ?_ _) | (with_reducible refine Below.setCell ?_ ?_ _) | (with_reducible refine Below.via (by with_reducible assumption) ?_ ?_) | (with_reducible refine Below.viaD (by with_reducible assumption) ?_ ?_) | (with_reducible exact Below.size (by with_reducible assumption)) | go_size | (with_reducible refine Nat.le_trans ?_ (Below.size (by with_reducible assumption))) | (with_reducible refine Nat.le_trans ?_ (sizeAlloc _ _)) | (with_reducible refine Nat.le_trans ?_ (sizeSet _ _ _)) | (with_reducible refine Nat.le_trans ?_ (sizeDrew _)))))); rintro e w_ ⟨rfl, rfl⟩) | (go_at_call 42; (with_reducible refine Calls.mono (sumOf_any A2 2 c2 d.stores _ ?_ q2 _ _ R2.out) ?_); (exact S2.out.later (by (repeat' (first | (with_reducible exact Below.refl _ _) | (with_reducible assumption) | (with_reducible refine Below.alloc ?_ ?_ _) | (with_reducible refine Below.drew ?_) | (with_reducible refine belowDrewN ?_ _) | (with_reducible refine Below.setCell ?_ ?_ _) | (with_reducible refine Below.via (by with_reducible assumption) ?_ ?_) | (with_reducible refine Below.viaD (by with_reducible assumption) ?_ ?_) | (with_reducible exact Below.size (by with_reducible assumption)) | go_size | (with_reducible refine Nat.le_trans ?_ (Below.size (by with_reducible assumption))) | (with_reducible refine Nat.le_trans ?_ (sizeAlloc _ _)) | (with_reducible refine Nat.le_trans ?_ (sizeSet _ _ _)) | (with_reducible refine Nat.le_trans ?_ (sizeDrew _)))))); rintro e w_ ⟨rfl, rfl⟩))
                all_goals
                  go_ret
                  exact ⟨by first | rfl | simp [*], by (repeat' (first | (with_reducible exact Below.refl _ _) | (with_reducible assumption) | (with_reducible refine Below.alloc ?_ ?_ _) | (with_reducible refine Below.drew ?_) | (with_reducible refine belowDrewN ?_ _) | (with_reducible refine Below.setCell ?_ ?_ _) | (with_reducible refine Below.via (by with_reducible assumption) ?_ ?_) | (with_reducible refine Below.viaD (by with_reducible assumption) ?_ ?_) | (with_reducible exact Below.size (by with_reducible assumption)) | go_size | (with_reducible refine Nat.le_trans ?_ (Below.size (by with_reducible assumption))) | (with_reducible refine Nat.le_trans ?_ (sizeAlloc _ _)) | (with_reducible refine Nat.le_trans ?_ (sizeSet _ _ _)) | (with_reducible refine Nat.le_trans ?_ (sizeDrew _))))⟩
theorem ValidPosition_any (r : Ru) (cs : List Value) (d : PositionD) (w : World) (h : XPosition w cs d) (hsz : szPosition d ≤ 1048576) : Calls Try.prog 29 #[.agg #[.int .i64 r.p, .int .i64 r.s, .bool r.st, .bool r.sk, .bool r.re, .bool r.fe, .bool r.ag, .int .i64 r.ca, .int .i64 r.sl], .agg cs.toArray] w fun e w' => e = .returned (.bool (okPos r d)) ∧ Below w.heap.size w w' :=
  ValidPosition_two r cs d w h ⟨by unfold szPosition at hsz; omega, by unfold szPosition at hsz; omega⟩
theorem sumS_bd {zs : List Int} {n : Nat} {u : Int} (hl : zs.length = n) (h : sumS zs n = u) : -1 ≤ u ∧ u ≤ 96 := by
  subst hl
  rw [sumS] at h
  split at h
  · rename_i g
    rw [Bool.and_eq_true] at g
    have := psum_all g.1
    have := of_decide_eq_true g.2
    omega
  · omega
theorem okPos_sums {r : Ru} {d : PositionD} {n1 n2 : Nat} (g1 : okRu r = true) (e1 : d.pits.length = n1) (g2 : (n1 : Int) = 2 * r.p) (e2 : d.stores.length = n2) (h2 : n2 = 2) (g4 : inB d.player 0 1 = true) :
    okPos r d = (decide (0 ≤ sumS d.pits n1) && decide (0 ≤ sumS d.stores n2) && decide (sumS d.pits n1 + sumS d.stores n2 ≤ 96)) := by
  rw [okPos, g1, g4, e1, decide_eq_true g2, e2, decide_eq_true h2, sumS, sumS]
  cases a1 : okL d.pits
  case false => simp
  case true =>
    cases a2 : okL d.stores
    case false => simp
    case true =>
      have t1 := psum_all a1
      have t2 := psum_all a2
      rw [e1] at t1
      rw [e2] at t2
      by_cases h1 : psum d.pits n1 ≤ 96 <;> by_cases h3 : psum d.stores n2 ≤ 96 <;> by_cases h4 : psum d.pits n1 + psum d.stores n2 ≤ 96 <;> simp [h1, h3, h4, t1.1, t2.1] <;> omega
set_option maxRecDepth 100000 in
set_option maxHeartbeats 4000000 in
theorem l04Ok_two (r : Ru) (b o b2 o2 : Nat) (A1 A2 : Option Addr) (n1 c1 n2 c2 : Nat) (d : PositionD) (w : World) (hr : RuAt w b o r) (hp : PosAt w b2 o2 A1 n1 c1 A2 n2 c2 d) (hsz : d.pits.length ≤ 1048576 ∧ d.stores.length ≤ 1048576) : Calls Try.prog 26 #[.pointer (some ⟨b, o, none⟩), .pointer (some ⟨b2, o2, none⟩)] w fun e w' => e = .returned (.bool (okPos r d)) ∧ ∃ m, w' = w.drewN m := by
  obtain ⟨p0, p1, p2, s1, s2⟩ := hp
  have HRU := Lib.hid hr
  have r0 := hr.c0
  clear hr
  have e1 := s1.ints
  have e2 := s2.ints
  have q1 : n1 ≤ 1048576 := by omega
  have q2 : n2 ≤ 1048576 := by omega
  have S1 := Lib.hid s1
  have S2 := Lib.hid s2
  clear hsz s1 s2
  obtain ⟨q, hq⟩ : ∃ q, okPos r d = q := ⟨_, rfl⟩
  have HQ := Lib.hid hq
  clear hq
  rw [HQ.out]
  have E1 := Lib.hid e1
  have E2 := Lib.hid e2
  clear e1 e2
  cases g1 : okRu r
  all_goals have QR := Lib.hid g1
  case false =>
    obtain rfl : q = false := by
      rw [← HQ.out, okPos]; simp [g1]
    go_enter Try.func26, Try.ntmps26
    go_wp2_with fail
    first | (refine wp_region_quiet_lit (by kernel_rfl) (by kernel_rfl) ?_; refine WQ.of ?_; (repeat (refine WQ.step (fun K hK => ?_); go_simp; first | (refine hK _ ?_; clear hK K) | (apply Exists.intro; refine ⟨fun _ => ?_, hK _ ?_⟩; ((first | (go_at_call 39; exact quiet_l (l02Ok_lit QR.out b o _ (HRU.out.drewN _))) | (go_at_call 27; exact quiet_l (l00In_lit' QP.out _)))); clear hK K))); refine WQ.nil ?_; intro _ hw'; obtain ⟨nq, hw''⟩ := hw'; subst hw'') | go_quiet ((first | (go_at_call 39; exact quiet_l (l02Ok_lit QR.out b o _ (HRU.out.drewN _))) | (go_at_call 27; exact quiet_l (l00In_lit' QP.out _))))
    go_wp2_with fail
    all_goals
      go_ret
      exact ⟨by first | rfl | simp [*], _, rfl⟩
  case true =>
    obtain ⟨b1, b2⟩ := okRu_of g1
    have hw : IntKind.i64.wrap (2 * r.p) = 2 * r.p := IntWalk.i64_in _ (by omega)
    by_cases g2 : (n1 : Int) = 2 * r.p
    case neg =>
      have g2b : ((n1 : Int) == 2 * r.p) = false := beq_eq_false_iff_ne.2 g2
      have g2c : ((n1 : Int) != 2 * r.p) = true := by rw [bne, g2b]; rfl
      obtain rfl : q = false := by
        rw [← HQ.out, okPos]; simp [g1, E1.out, g2]
      go_enter Try.func26, Try.ntmps26
      go_wp2_with fail
      first | (refine wp_region_quiet_lit (by kernel_rfl) (by kernel_rfl) ?_; refine WQ.of ?_; (repeat (refine WQ.step (fun K hK => ?_); go_simp; first | (refine hK _ ?_; clear hK K) | (apply Exists.intro; refine ⟨fun _ => ?_, hK _ ?_⟩; ((first | (go_at_call 39; exact quiet_l (l02Ok_lit QR.out b o _ (HRU.out.drewN _))) | (go_at_call 27; exact quiet_l (l00In_lit' QP.out _)))); clear hK K))); refine WQ.nil ?_; intro _ hw'; obtain ⟨nq, hw''⟩ := hw'; subst hw'') | go_quiet ((first | (go_at_call 39; exact quiet_l (l02Ok_lit QR.out b o _ (HRU.out.drewN _))) | (go_at_call 27; exact quiet_l (l00In_lit' QP.out _))))
      go_wp2_with fail
      all_goals
        go_ret
        exact ⟨by first | rfl | simp [*], _, rfl⟩
    case pos =>
      have g2b : ((n1 : Int) == 2 * r.p) = true := beq_iff_eq.2 g2
      have g2c : ((n1 : Int) != 2 * r.p) = false := by rw [bne, g2b]; rfl
      have G2 := Lib.hid g2
      clear g2
      by_cases g3 : n2 = 2
      case neg =>
        have g3b : ((n2 : Int) == 2) = false := beq_eq_false_iff_ne.2 (by omega)
        have g3c : ((n2 : Int) != 2) = true := by rw [bne, g3b]; rfl
        obtain rfl : q = false := by
          rw [← HQ.out, okPos]; simp [g1, E1.out, E2.out, g3]
        go_enter Try.func26, Try.ntmps26
        go_wp2_with fail
        first | (refine wp_region_quiet_lit (by kernel_rfl) (by kernel_rfl) ?_; refine WQ.of ?_; (repeat (refine WQ.step (fun K hK => ?_); go_simp; first | (refine hK _ ?_; clear hK K) | (apply Exists.intro; refine ⟨fun _ => ?_, hK _ ?_⟩; ((first | (go_at_call 39; exact quiet_l (l02Ok_lit QR.out b o _ (HRU.out.drewN _))) | (go_at_call 27; exact quiet_l (l00In_lit' QP.out _)))); clear hK K))); refine WQ.nil ?_; intro _ hw'; obtain ⟨nq, hw''⟩ := hw'; subst hw'') | go_quiet ((first | (go_at_call 39; exact quiet_l (l02Ok_lit QR.out b o _ (HRU.out.drewN _))) | (go_at_call 27; exact quiet_l (l00In_lit' QP.out _))))
        go_wp2_with fail
        all_goals
          go_ret
          exact ⟨by first | rfl | simp [*], _, rfl⟩
      case pos =>
        subst g3
        cases g4 : inB d.player 0 1
        all_goals have QP := Lib.hid g4
        case false =>
          obtain rfl : q = false := by
            rw [← HQ.out, okPos]; simp [g4]
          go_enter Try.func26, Try.ntmps26
          go_wp2_with fail
          first | (refine wp_region_quiet_lit (by kernel_rfl) (by kernel_rfl) ?_; refine WQ.of ?_; (repeat (refine WQ.step (fun K hK => ?_); go_simp; first | (refine hK _ ?_; clear hK K) | (apply Exists.intro; refine ⟨fun _ => ?_, hK _ ?_⟩; ((first | (go_at_call 39; exact quiet_l (l02Ok_lit QR.out b o _ (HRU.out.drewN _))) | (go_at_call 27; exact quiet_l (l00In_lit' QP.out _)))); clear hK K))); refine WQ.nil ?_; intro _ hw'; obtain ⟨nq, hw''⟩ := hw'; subst hw'') | go_quiet ((first | (go_at_call 39; exact quiet_l (l02Ok_lit QR.out b o _ (HRU.out.drewN _))) | (go_at_call 27; exact quiet_l (l00In_lit' QP.out _))))
          go_wp2_with fail
          all_goals
            go_ret
            exact ⟨by first | rfl | simp [*], _, rfl⟩
        case true =>
          obtain ⟨u1, hr1⟩ : ∃ u, sumS d.pits n1 = u := ⟨_, rfl⟩
          obtain ⟨u2, hr2⟩ : ∃ u, sumS d.stores 2 = u := ⟨_, rfl⟩
          have R1 := Lib.hid hr1
          have R2 := Lib.hid hr2
          have hE : q = (decide (0 ≤ u1) && decide (0 ≤ u2) && decide (u1 + u2 ≤ 96)) := by
            rw [← HQ.out, ← hr1, ← hr2]; exact okPos_sums g1 E1.out G2.out E2.out rfl g4
          obtain ⟨v1, v2⟩ := sumS_bd E1.out hr1
          obtain ⟨v3, v4⟩ := sumS_bd E2.out hr2
          clear hr1 hr2
          by_cases g5 : 0 ≤ u1
          case neg =>
            obtain rfl : q = false := by rw [hE]; simp [*]
            clear hE
            go_enter Try.func26, Try.ntmps26
            go_wp2_with fail
            first | (refine wp_region_quiet_lit (by kernel_rfl) (by kernel_rfl) ?_; refine WQ.of ?_; (repeat (refine WQ.step (fun K hK => ?_); go_simp; first | (refine hK _ ?_; clear hK K) | (apply Exists.intro; refine ⟨fun _ => ?_, hK _ ?_⟩; ((first | (go_at_call 39; exact quiet_l (l02Ok_lit QR.out b o _ (HRU.out.drewN _))) | (go_at_call 27; exact quiet_l (l00In_lit' QP.out _)))); clear hK K))); refine WQ.nil ?_; intro _ hw'; obtain ⟨nq, hw''⟩ := hw'; subst hw'') | go_quiet ((first | (go_at_call 39; exact quiet_l (l02Ok_lit QR.out b o _ (HRU.out.drewN _))) | (go_at_call 27; exact quiet_l (l00In_lit' QP.out _))))
            go_wp2_with (first | (go_at_call 40; (with_reducible refine Calls.mono (l04Sum_any A1 n1 c1 d.pits _ ?_ q1 _ R1.out) ?_); (exact S1.out.drewN _); rintro e w_ ⟨rfl, rfl⟩) | (go_at_call 40; (with_reducible refine Calls.mono (l04Sum_any A2 2 c2 d.stores _ ?_ q2 _ R2.out) ?_); (exact S2.out.drewN _); rintro e w_ ⟨rfl, rfl⟩))
            all_goals
              go_ret
              exact ⟨by first | rfl | simp [*], _, rfl⟩
          case pos =>
            by_cases g6 : 0 ≤ u2
            case neg =>
              obtain rfl : q = false := by rw [hE]; simp [*]
              clear hE
              go_enter Try.func26, Try.ntmps26
              go_wp2_with fail
              first | (refine wp_region_quiet_lit (by kernel_rfl) (by kernel_rfl) ?_; refine WQ.of ?_; (repeat (refine WQ.step (fun K hK => ?_); go_simp; first | (refine hK _ ?_; clear hK K) | (apply Exists.intro; refine ⟨fun _ => ?_, hK _ ?_⟩; ((first | (go_at_call 39; exact quiet_l (l02Ok_lit QR.out b o _ (HRU.out.drewN _))) | (go_at_call 27; exact quiet_l (l00In_lit' QP.out _)))); clear hK K))); refine WQ.nil ?_; intro _ hw'; obtain ⟨nq, hw''⟩ := hw'; subst hw'') | go_quiet ((first | (go_at_call 39; exact quiet_l (l02Ok_lit QR.out b o _ (HRU.out.drewN _))) | (go_at_call 27; exact quiet_l (l00In_lit' QP.out _))))
              go_wp2_with (first | (go_at_call 40; (with_reducible refine Calls.mono (l04Sum_any A1 n1 c1 d.pits _ ?_ q1 _ R1.out) ?_); (exact S1.out.drewN _); rintro e w_ ⟨rfl, rfl⟩) | (go_at_call 40; (with_reducible refine Calls.mono (l04Sum_any A2 2 c2 d.stores _ ?_ q2 _ R2.out) ?_); (exact S2.out.drewN _); rintro e w_ ⟨rfl, rfl⟩))
              all_goals
                go_ret
                exact ⟨by first | rfl | simp [*], _, rfl⟩
            case pos =>
              by_cases g7 : u1 + u2 ≤ 96
              case neg =>
                obtain rfl : q = false := by rw [hE]; simp [*]
                clear hE
                go_enter Try.func26, Try.ntmps26
                go_wp2_with fail
                first | (refine wp_region_quiet_lit (by kernel_rfl) (by kernel_rfl) ?_; refine WQ.of ?_; (repeat (refine WQ.step (fun K hK => ?_); go_simp; first | (refine hK _ ?_; clear hK K) | (apply Exists.intro; refine ⟨fun _ => ?_, hK _ ?_⟩; ((first | (go_at_call 39; exact quiet_l (l02Ok_lit QR.out b o _ (HRU.out.drewN _))) | (go_at_call 27; exact quiet_l (l00In_lit' QP.out _)))); clear hK K))); refine WQ.nil ?_; intro _ hw'; obtain ⟨nq, hw''⟩ := hw'; subst hw'') | go_quiet ((first | (go_at_call 39; exact quiet_l (l02Ok_lit QR.out b o _ (HRU.out.drewN _))) | (go_at_call 27; exact quiet_l (l00In_lit' QP.out _))))
                go_wp2_with (first | (go_at_call 40; (with_reducible refine Calls.mono (l04Sum_any A1 n1 c1 d.pits _ ?_ q1 _ R1.out) ?_); (exact S1.out.drewN _); rintro e w_ ⟨rfl, rfl⟩) | (go_at_call 40; (with_reducible refine Calls.mono (l04Sum_any A2 2 c2 d.stores _ ?_ q2 _ R2.out) ?_); (exact S2.out.drewN _); rintro e w_ ⟨rfl, rfl⟩))
                all_goals
                  go_ret
                  exact ⟨by first | rfl | simp [*], _, rfl⟩
              case pos =>
                obtain rfl : q = true := by rw [hE]; simp [*]
                clear hE
                go_enter Try.func26, Try.ntmps26
                go_wp2_with fail
                first | (refine wp_region_quiet_lit (by kernel_rfl) (by kernel_rfl) ?_; refine WQ.of ?_; (repeat (refine WQ.step (fun K hK => ?_); go_simp; first | (refine hK _ ?_; clear hK K) | (apply Exists.intro; refine ⟨fun _ => ?_, hK _ ?_⟩; ((first | (go_at_call 39; exact quiet_l (l02Ok_lit QR.out b o _ (HRU.out.drewN _))) | (go_at_call 27; exact quiet_l (l00In_lit' QP.out _)))); clear hK K))); refine WQ.nil ?_; intro _ hw'; obtain ⟨nq, hw''⟩ := hw'; subst hw'') | go_quiet ((first | (go_at_call 39; exact quiet_l (l02Ok_lit QR.out b o _ (HRU.out.drewN _))) | (go_at_call 27; exact quiet_l (l00In_lit' QP.out _))))
                go_wp2_with (first | (go_at_call 40; (with_reducible refine Calls.mono (l04Sum_any A1 n1 c1 d.pits _ ?_ q1 _ R1.out) ?_); (exact S1.out.drewN _); rintro e w_ ⟨rfl, rfl⟩) | (go_at_call 40; (with_reducible refine Calls.mono (l04Sum_any A2 2 c2 d.stores _ ?_ q2 _ R2.out) ?_); (exact S2.out.drewN _); rintro e w_ ⟨rfl, rfl⟩))
                all_goals
                  go_ret
                  exact ⟨by first | rfl | simp [*], _, rfl⟩
theorem l04Ok_quiet (r : Ru) (b o b2 o2 : Nat) (A1 A2 : Option Addr) (n1 c1 n2 c2 : Nat) (d : PositionD) (w : World) (hr : RuAt w b o r) (hp : PosAt w b2 o2 A1 n1 c1 A2 n2 c2 d) (hsz : szPosition d ≤ 1048576) : Calls Try.prog 26 #[.pointer (some ⟨b, o, none⟩), .pointer (some ⟨b2, o2, none⟩)] w fun e w' => e = .returned (.bool (okPos r d)) ∧ ∃ m, w' = w.drewN m :=
  l04Ok_two r b o b2 o2 A1 A2 n1 c1 n2 c2 d w hr hp ⟨by unfold szPosition at hsz; omega, by unfold szPosition at hsz; omega⟩
end Go.Proofs.Ytcfbihponecblaa
/- The seeds of a side, and the value of an end: both functions. Conditions: lengths below 2^20. -/
namespace Go.Proofs.Ytcfbihponecblaa
set_option linter.unusedSimpArgs false
set_option linter.unusedVariables false
open Go.RowKit

theorem undr {w w' : World} (h : Below w.drew.heap.size w.drew w') : Below w.heap.size w w' := Below.undrew h
def segL (zs : List Int) (lo P : Nat) : List Int := (zs.drop lo).take P
def sideV (zs : List Int) (P pl : Nat) : Int := psum (segL zs (pl * P) P) P
theorem segL_len {zs : List Int} {lo P : Nat} (h : lo + P ≤ zs.length) : (segL zs lo P).length = P := by simp [segL]; omega
theorem segL_at {zs : List Int} {lo P j : Nat} (h : lo + P ≤ zs.length) (hj : j < P) : (segL zs lo P).getD j 0 = zs.getD (lo + j) 0 := by
  rw [segL, List.getD_eq_getElem?_getD, List.getD_eq_getElem?_getD, List.getElem?_take, if_pos hj, List.getElem?_drop]
theorem okL_seg {zs : List Int} {lo P : Nat} (h : okL zs = true) (hl : lo + P ≤ zs.length) : okL (segL zs lo P) = true := by
  refine okL_t fun j hj => ?_
  rw [segL_len hl] at hj
  rw [segL_at hl hj]
  exact List.all_eq_true.1 h _ (getD_mem 0 (by omega))
theorem sideV_bd {zs : List Int} {P pl : Nat} (h : okL zs = true) (hl : pl * P + P ≤ zs.length) (hP : P ≤ 8) : 0 ≤ sideV zs P pl ∧ sideV zs P pl ≤ 768 := by
  have h1 := psum_all (okL_seg h hl)
  rw [segL_len hl] at h1
  rw [sideV]
  omega
theorem Sl.seg {w : World} {B n lo P : Nat} {b off : Nat} {zs : List Int} (h : Sl w B 1 (some ⟨b, off, none⟩) n (zs.map (Value.int .i64))) (hl : lo + P ≤ n) : Sl w B 1 (some ⟨b, off + lo, none⟩) P ((segL zs lo P).map (Value.int .i64)) := by
  have hz := h.ints
  refine ⟨by rw [List.length_map, segL_len (by omega), Nat.mul_one], fun hP => ?_⟩
  obtain ⟨b', off', e, hb, hc⟩ := h.2 (by omega)
  injection e with e
  injection e with e1 e2 _
  subst e1 e2
  refine ⟨_, _, rfl, hb, fun j u hu => ?_⟩
  rw [Nat.add_assoc]
  refine hc _ _ ?_
  have hj : j < P := by
    rcases Nat.lt_or_ge j P with h | h
    · exact h
    · rw [List.getElem?_eq_none (by rw [List.length_map, segL_len (by omega)]; exact h)] at hu; cases hu
  rw [← hu, List.getElem?_map, List.getElem?_map, segL, List.getElem?_take, if_pos hj, List.getElem?_drop]
theorem sideV_bd2 {zs : List Int} {P pl : Nat} (h : okL zs = true) (hl : zs.length = 2 * P) (hp : pl < 2) (hP : P ≤ 8) : 0 ≤ sideV zs P pl ∧ sideV zs P pl ≤ 768 := by
  have : pl = 0 ∨ pl = 1 := by omega
  rcases this with rfl | rfl
  · exact sideV_bd h (by omega) hP
  · exact sideV_bd h (by omega) hP
set_option maxRecDepth 100000 in
set_option maxHeartbeats 2000000 in
theorem side_any (r : Ru) (P pl : Nat) (A : Option Addr) (n c : Nat) (zs : List Int) (w : World) (hs : Sl w w.heap.size 1 A n (zs.map (Value.int .i64))) (hP : r.p = (P : Int)) (h2 : 2 ≤ P) (h8 : P ≤ 8) (hn : n = 2 * P) (hc : n ≤ c) (hcm : c ≤ 9223372036854775807) (hpl : pl < 2) (ho : okL zs = true) :
    Calls Try.prog 33 #[.agg #[.int .i64 r.p, .int .i64 r.s, .bool r.st, .bool r.sk, .bool r.re, .bool r.fe, .bool r.ag, .int .i64 r.ca, .int .i64 r.sl], .slice A n c, .int .i64 pl] w fun e w' => e = .returned (.int .i64 (sideV zs P pl)) ∧ Below w.heap.size w w' := by
  obtain ⟨p, s, st, sk, re, fe, ag, ca, sl⟩ := r
  simp only at hP
  subst hP
  obtain ⟨b, off, e, hb, hcl⟩ := hs.2 (by omega)
  subst e
  have hz := hs.ints
  subst hn
  have hl : pl * P + P ≤ 2 * P := by
    have : pl = 0 ∨ pl = 1 := by omega
    rcases this with rfl | rfl <;> omega
  have HSG := Lib.hid (hs.seg (lo := pl * P) (P := P) hl)
  have hsr : sumR (segL zs (pl * P) P) P = (sideV zs P pl, true) := by rw [sumR, okL_seg ho (by omega)]; rfl
  have HR := Lib.hid hsr
  clear hsr hs hcl
  have : pl = 0 ∨ pl = 1 := by omega
  rcases this with rfl | rfl
  · have HSG0 : Hid (Sl w w.heap.size 1 (some ⟨b, off, none⟩) P ((segL zs (0 * P) P).map (Value.int .i64))) := by have h9 := HSG.out; rw [Nat.zero_mul, Nat.add_zero] at h9; rw [Nat.zero_mul]; exact h9
    go_enter Try.func33, Try.ntmps33
    go_wp2_with (go_at_call 42; (with_reducible refine Calls.mono (sumOf_any (some ⟨b, off, none⟩) P c (segL zs (0 * P) P) _ ?_ (by omega) _ _ HR.out) ?_); (exact HSG0.out.later (by (repeat' (first | (with_reducible exact Below.refl _ _) | (with_reducible assumption) | (with_reducible refine Below.alloc ?_ ?_ _) | (with_reducible refine Below.drew ?_) | (with_reducible refine belowDrewN ?_ _) | (with_reducible refine Below.setCell ?_ ?_ _) | (with_reducible refine Below.via (by with_reducible assumption) ?_ ?_) | (with_reducible refine Below.viaD (by with_reducible assumption) ?_ ?_) | (with_reducible exact Below.size (by with_reducible assumption)) | go_size | (with_reducible refine Nat.le_trans ?_ (Below.size (by with_reducible assumption))) | (with_reducible refine Nat.le_trans ?_ (sizeAlloc _ _)) | (with_reducible refine Nat.le_trans ?_ (sizeSet _ _ _)) | (with_reducible refine Nat.le_trans ?_ (sizeDrew _)))))); rintro e w_ ⟨rfl, rfl⟩)
    all_goals
      go_ret
      exact ⟨rfl, by (repeat' (first | (with_reducible exact Below.refl _ _) | (with_reducible assumption) | (with_reducible refine Below.alloc ?_ ?_ _) | (with_reducible refine Below.drew ?_) | (with_reducible refine belowDrewN ?_ _) | (with_reducible refine Below.setCell ?_ ?_ _) | (with_reducible refine Below.via (by with_reducible assumption) ?_ ?_) | (with_reducible refine Below.viaD (by with_reducible assumption) ?_ ?_) | (with_reducible exact Below.size (by with_reducible assumption)) | go_size | (with_reducible refine Nat.le_trans ?_ (Below.size (by with_reducible assumption))) | (with_reducible refine Nat.le_trans ?_ (sizeAlloc _ _)) | (with_reducible refine Nat.le_trans ?_ (sizeSet _ _ _)) | (with_reducible refine Nat.le_trans ?_ (sizeDrew _))))⟩
  · have hpp : 2 * P - P = P := by omega
    have HSG1 : Hid (Sl w w.heap.size 1 (some ⟨b, off + P, none⟩) (2 * P - P) ((segL zs (1 * P) P).map (Value.int .i64))) := by have h9 := HSG.out; rw [Nat.one_mul] at h9; rw [Nat.one_mul, hpp]; exact h9
    have HR1 : Hid (sumR (segL zs (1 * P) P) (2 * P - P) = (sideV zs P 1, true)) := by rw [hpp]; exact HR
    clear hpp
    go_enter Try.func33, Try.ntmps33
    go_wp2_with (go_at_call 42; (with_reducible refine Calls.mono (sumOf_any (some ⟨b, off + P, none⟩) (2 * P - P) (c - P) (segL zs (1 * P) P) _ ?_ (by omega) _ _ HR1.out) ?_); (exact HSG1.out.later (by (repeat' (first | (with_reducible exact Below.refl _ _) | (with_reducible assumption) | (with_reducible refine Below.alloc ?_ ?_ _) | (with_reducible refine Below.drew ?_) | (with_reducible refine belowDrewN ?_ _) | (with_reducible refine Below.setCell ?_ ?_ _) | (with_reducible refine Below.via (by with_reducible assumption) ?_ ?_) | (with_reducible refine Below.viaD (by with_reducible assumption) ?_ ?_) | (with_reducible exact Below.size (by with_reducible assumption)) | go_size | (with_reducible refine Nat.le_trans ?_ (Below.size (by with_reducible assumption))) | (with_reducible refine Nat.le_trans ?_ (sizeAlloc _ _)) | (with_reducible refine Nat.le_trans ?_ (sizeSet _ _ _)) | (with_reducible refine Nat.le_trans ?_ (sizeDrew _)))))); rintro e w_ ⟨rfl, rfl⟩)
    all_goals
      go_ret
      exact ⟨rfl, by (repeat' (first | (with_reducible exact Below.refl _ _) | (with_reducible assumption) | (with_reducible refine Below.alloc ?_ ?_ _) | (with_reducible refine Below.drew ?_) | (with_reducible refine belowDrewN ?_ _) | (with_reducible refine Below.setCell ?_ ?_ _) | (with_reducible refine Below.via (by with_reducible assumption) ?_ ?_) | (with_reducible refine Below.viaD (by with_reducible assumption) ?_ ?_) | (with_reducible exact Below.size (by with_reducible assumption)) | go_size | (with_reducible refine Nat.le_trans ?_ (Below.size (by with_reducible assumption))) | (with_reducible refine Nat.le_trans ?_ (sizeAlloc _ _)) | (with_reducible refine Nat.le_trans ?_ (sizeSet _ _ _)) | (with_reducible refine Nat.le_trans ?_ (sizeDrew _))))⟩
def evR (r : Ru) (d : PositionD) : Int × Int := if okPos r d then (sideV d.pits r.p.toNat d.player.toNat - sideV d.pits r.p.toNat (1 - d.player).toNat, 0) else (0, 1)
theorem okPos_of {r : Ru} {d : PositionD} (h : okPos r d = true) : ∃ P pl : Nat, r.p = (P : Int) ∧ 2 ≤ P ∧ P ≤ 8 ∧ d.pits.length = 2 * P ∧ d.stores.length = 2 ∧ d.player = (pl : Int) ∧ pl < 2 ∧ okL d.pits = true ∧ okL d.stores = true ∧ okRu r = true := by
  simp only [okPos, Bool.and_eq_true, decide_eq_true_eq] at h
  obtain ⟨⟨⟨⟨⟨⟨h1, h2⟩, h3⟩, h4⟩, h5⟩, h6⟩, h7⟩ := h
  obtain ⟨b1, b2⟩ := okRu_of h1
  obtain ⟨c1, c2⟩ := inB_of h4
  obtain ⟨P, hP⟩ := Int.eq_ofNat_of_zero_le (show 0 ≤ r.p by omega)
  obtain ⟨pl, hpl⟩ := Int.eq_ofNat_of_zero_le c1
  exact ⟨P, pl, hP, by omega, by omega, by omega, h3, hpl, by omega, h5, h6, h1⟩
end Go.Proofs.Ytcfbihponecblaa
/- The value of an end by the program. Conditions: lengths below 2^20. -/
namespace Go.Proofs.Ytcfbihponecblaa
set_option linter.unusedSimpArgs false
set_option linter.unusedVariables false
open Go.RowKit

/-- The two boxes of a call over rules and a position, in a later world. -/
theorem ends_keep {w W W' : World} {r : Ru} {v1 v2 v3 : Value} (h : (W.cell? ⟨w.heap.size, 0, none⟩ = some (.int .i64 r.p) ∧ W.cell? ⟨w.heap.size, 1, none⟩ = some (.int .i64 r.s) ∧ W.cell? ⟨w.heap.size, 2, none⟩ = some (.bool r.st) ∧ W.cell? ⟨w.heap.size, 3, none⟩ = some (.bool r.sk) ∧ W.cell? ⟨w.heap.size, 4, none⟩ = some (.bool r.re) ∧ W.cell? ⟨w.heap.size, 5, none⟩ = some (.bool r.fe) ∧ W.cell? ⟨w.heap.size, 6, none⟩ = some (.bool r.ag) ∧ W.cell? ⟨w.heap.size, 7, none⟩ = some (.int .i64 r.ca) ∧ W.cell? ⟨w.heap.size, 8, none⟩ = some (.int .i64 r.sl)) ∧ (W.cell? ⟨w.heap.size + 1, 0, none⟩ = some (v1) ∧ W.cell? ⟨w.heap.size + 1, 1, none⟩ = some (v2) ∧ W.cell? ⟨w.heap.size + 1, 2, none⟩ = some (v3)) ∧ Below w.heap.size w W) (hb : Below W.heap.size W W') : (W'.cell? ⟨w.heap.size, 0, none⟩ = some (.int .i64 r.p) ∧ W'.cell? ⟨w.heap.size, 1, none⟩ = some (.int .i64 r.s) ∧ W'.cell? ⟨w.heap.size, 2, none⟩ = some (.bool r.st) ∧ W'.cell? ⟨w.heap.size, 3, none⟩ = some (.bool r.sk) ∧ W'.cell? ⟨w.heap.size, 4, none⟩ = some (.bool r.re) ∧ W'.cell? ⟨w.heap.size, 5, none⟩ = some (.bool r.fe) ∧ W'.cell? ⟨w.heap.size, 6, none⟩ = some (.bool r.ag) ∧ W'.cell? ⟨w.heap.size, 7, none⟩ = some (.int .i64 r.ca) ∧ W'.cell? ⟨w.heap.size, 8, none⟩ = some (.int .i64 r.sl)) ∧ (W'.cell? ⟨w.heap.size + 1, 0, none⟩ = some (v1) ∧ W'.cell? ⟨w.heap.size + 1, 1, none⟩ = some (v2) ∧ W'.cell? ⟨w.heap.size + 1, 2, none⟩ = some (v3)) ∧ Below w.heap.size w W' := by
  obtain ⟨⟨a0, a1, a2, a3, a4, a5, a6, a7, a8⟩, ⟨b0, b1, b2⟩, hB⟩ := h
  have l0 := cell_lt a0
  have l1 := cell_lt b0
  refine ⟨⟨(hb.cell (p := ⟨_, _, none⟩) l0).trans a0, (hb.cell (p := ⟨_, _, none⟩) l0).trans a1, (hb.cell (p := ⟨_, _, none⟩) l0).trans a2, (hb.cell (p := ⟨_, _, none⟩) l0).trans a3, (hb.cell (p := ⟨_, _, none⟩) l0).trans a4, (hb.cell (p := ⟨_, _, none⟩) l0).trans a5, (hb.cell (p := ⟨_, _, none⟩) l0).trans a6, (hb.cell (p := ⟨_, _, none⟩) l0).trans a7, (hb.cell (p := ⟨_, _, none⟩) l0).trans a8⟩, ⟨(hb.cell (p := ⟨_, _, none⟩) l1).trans b0, (hb.cell (p := ⟨_, _, none⟩) l1).trans b1, (hb.cell (p := ⟨_, _, none⟩) l1).trans b2⟩, Below.via hb hB hB.size⟩
theorem ends_drew {w W : World} {r : Ru} {v1 v2 v3 : Value} (h : (W.cell? ⟨w.heap.size, 0, none⟩ = some (.int .i64 r.p) ∧ W.cell? ⟨w.heap.size, 1, none⟩ = some (.int .i64 r.s) ∧ W.cell? ⟨w.heap.size, 2, none⟩ = some (.bool r.st) ∧ W.cell? ⟨w.heap.size, 3, none⟩ = some (.bool r.sk) ∧ W.cell? ⟨w.heap.size, 4, none⟩ = some (.bool r.re) ∧ W.cell? ⟨w.heap.size, 5, none⟩ = some (.bool r.fe) ∧ W.cell? ⟨w.heap.size, 6, none⟩ = some (.bool r.ag) ∧ W.cell? ⟨w.heap.size, 7, none⟩ = some (.int .i64 r.ca) ∧ W.cell? ⟨w.heap.size, 8, none⟩ = some (.int .i64 r.sl)) ∧ (W.cell? ⟨w.heap.size + 1, 0, none⟩ = some (v1) ∧ W.cell? ⟨w.heap.size + 1, 1, none⟩ = some (v2) ∧ W.cell? ⟨w.heap.size + 1, 2, none⟩ = some (v3)) ∧ Below w.heap.size w W) : (W.drew.cell? ⟨w.heap.size, 0, none⟩ = some (.int .i64 r.p) ∧ W.drew.cell? ⟨w.heap.size, 1, none⟩ = some (.int .i64 r.s) ∧ W.drew.cell? ⟨w.heap.size, 2, none⟩ = some (.bool r.st) ∧ W.drew.cell? ⟨w.heap.size, 3, none⟩ = some (.bool r.sk) ∧ W.drew.cell? ⟨w.heap.size, 4, none⟩ = some (.bool r.re) ∧ W.drew.cell? ⟨w.heap.size, 5, none⟩ = some (.bool r.fe) ∧ W.drew.cell? ⟨w.heap.size, 6, none⟩ = some (.bool r.ag) ∧ W.drew.cell? ⟨w.heap.size, 7, none⟩ = some (.int .i64 r.ca) ∧ W.drew.cell? ⟨w.heap.size, 8, none⟩ = some (.int .i64 r.sl)) ∧ (W.drew.cell? ⟨w.heap.size + 1, 0, none⟩ = some (v1) ∧ W.drew.cell? ⟨w.heap.size + 1, 1, none⟩ = some (v2) ∧ W.drew.cell? ⟨w.heap.size + 1, 2, none⟩ = some (v3)) ∧ Below w.heap.size w W.drew := h.imp id (And.imp id (fun hB => Below.drew hB))
theorem ends_start (w : World) (r : Ru) (v1 v2 v3 : Value) (t t' : TypeId) : (((w.alloc (.cells #[.int .i64 r.p, .int .i64 r.s, .bool r.st, .bool r.sk, .bool r.re, .bool r.fe, .bool r.ag, .int .i64 r.ca, .int .i64 r.sl] t)).alloc (.cells #[v1, v2, v3] t')).cell? ⟨w.heap.size, 0, none⟩ = some (.int .i64 r.p) ∧ ((w.alloc (.cells #[.int .i64 r.p, .int .i64 r.s, .bool r.st, .bool r.sk, .bool r.re, .bool r.fe, .bool r.ag, .int .i64 r.ca, .int .i64 r.sl] t)).alloc (.cells #[v1, v2, v3] t')).cell? ⟨w.heap.size, 1, none⟩ = some (.int .i64 r.s) ∧ ((w.alloc (.cells #[.int .i64 r.p, .int .i64 r.s, .bool r.st, .bool r.sk, .bool r.re, .bool r.fe, .bool r.ag, .int .i64 r.ca, .int .i64 r.sl] t)).alloc (.cells #[v1, v2, v3] t')).cell? ⟨w.heap.size, 2, none⟩ = some (.bool r.st) ∧ ((w.alloc (.cells #[.int .i64 r.p, .int .i64 r.s, .bool r.st, .bool r.sk, .bool r.re, .bool r.fe, .bool r.ag, .int .i64 r.ca, .int .i64 r.sl] t)).alloc (.cells #[v1, v2, v3] t')).cell? ⟨w.heap.size, 3, none⟩ = some (.bool r.sk) ∧ ((w.alloc (.cells #[.int .i64 r.p, .int .i64 r.s, .bool r.st, .bool r.sk, .bool r.re, .bool r.fe, .bool r.ag, .int .i64 r.ca, .int .i64 r.sl] t)).alloc (.cells #[v1, v2, v3] t')).cell? ⟨w.heap.size, 4, none⟩ = some (.bool r.re) ∧ ((w.alloc (.cells #[.int .i64 r.p, .int .i64 r.s, .bool r.st, .bool r.sk, .bool r.re, .bool r.fe, .bool r.ag, .int .i64 r.ca, .int .i64 r.sl] t)).alloc (.cells #[v1, v2, v3] t')).cell? ⟨w.heap.size, 5, none⟩ = some (.bool r.fe) ∧ ((w.alloc (.cells #[.int .i64 r.p, .int .i64 r.s, .bool r.st, .bool r.sk, .bool r.re, .bool r.fe, .bool r.ag, .int .i64 r.ca, .int .i64 r.sl] t)).alloc (.cells #[v1, v2, v3] t')).cell? ⟨w.heap.size, 6, none⟩ = some (.bool r.ag) ∧ ((w.alloc (.cells #[.int .i64 r.p, .int .i64 r.s, .bool r.st, .bool r.sk, .bool r.re, .bool r.fe, .bool r.ag, .int .i64 r.ca, .int .i64 r.sl] t)).alloc (.cells #[v1, v2, v3] t')).cell? ⟨w.heap.size, 7, none⟩ = some (.int .i64 r.ca) ∧ ((w.alloc (.cells #[.int .i64 r.p, .int .i64 r.s, .bool r.st, .bool r.sk, .bool r.re, .bool r.fe, .bool r.ag, .int .i64 r.ca, .int .i64 r.sl] t)).alloc (.cells #[v1, v2, v3] t')).cell? ⟨w.heap.size, 8, none⟩ = some (.int .i64 r.sl)) ∧ (((w.alloc (.cells #[.int .i64 r.p, .int .i64 r.s, .bool r.st, .bool r.sk, .bool r.re, .bool r.fe, .bool r.ag, .int .i64 r.ca, .int .i64 r.sl] t)).alloc (.cells #[v1, v2, v3] t')).cell? ⟨w.heap.size + 1, 0, none⟩ = some (v1) ∧ ((w.alloc (.cells #[.int .i64 r.p, .int .i64 r.s, .bool r.st, .bool r.sk, .bool r.re, .bool r.fe, .bool r.ag, .int .i64 r.ca, .int .i64 r.sl] t)).alloc (.cells #[v1, v2, v3] t')).cell? ⟨w.heap.size + 1, 1, none⟩ = some (v2) ∧ ((w.alloc (.cells #[.int .i64 r.p, .int .i64 r.s, .bool r.st, .bool r.sk, .bool r.re, .bool r.fe, .bool r.ag, .int .i64 r.ca, .int .i64 r.sl] t)).alloc (.cells #[v1, v2, v3] t')).cell? ⟨w.heap.size + 1, 2, none⟩ = some (v3)) ∧ Below w.heap.size w ((w.alloc (.cells #[.int .i64 r.p, .int .i64 r.s, .bool r.st, .bool r.sk, .bool r.re, .bool r.fe, .bool r.ag, .int .i64 r.ca, .int .i64 r.sl] t)).alloc (.cells #[v1, v2, v3] t')) := by
  have RA := (RuAt.box w t r).later (boxed_ _ (.cells #[v1, v2, v3] t'))
  have PK := Blk.new (w.alloc (.cells #[.int .i64 r.p, .int .i64 r.s, .bool r.st, .bool r.sk, .bool r.re, .bool r.fe, .bool r.ag, .int .i64 r.ca, .int .i64 r.sl] t)) t' #[v1, v2, v3]
  rw [World.size_alloc] at PK
  exact ⟨⟨RA.c0, RA.c1, RA.c2, RA.c3, RA.c4, RA.c5, RA.c6, RA.c7, RA.c8⟩, ⟨PK.cell 0, PK.cell 1, PK.cell 2⟩, below_boxed (boxed_ _ _)⟩

end Go.Proofs.Ytcfbihponecblaa
/- Captures: valid seeds after sowing, owners and opposite pits. Conditions: lengths below 2^20. -/
namespace Go.Proofs.Ytcfbihponecblaa
set_option linter.unusedSimpArgs false
set_option linter.unusedVariables false
open Go.RowKit

def okLast (r : Ru) (d : SownD) (pl : Int) : Bool := if d.last = -1 then r.st && decide (0 < d.stores.getD pl.toNat 0) else inB d.last 0 (2 * r.p - 1) && decide (0 < d.pits.getD d.last.toNat 0)
def okSown (r : Ru) (d : SownD) (pl : Int) : Bool := inB pl 0 1 && okPos r ⟨d.pits, d.stores, pl⟩ && inB d.laps 1 100 && okLast r d pl
/-- The owner of a pit. -/
def ownI (P k : Nat) : Int := if k < P then 0 else 1
theorem ownI_lt {P k : Nat} (h : k < P) : ownI P k = 0 := if_pos h
theorem ownI_ge {P k : Nat} (h : P ≤ k) : ownI P k = 1 := if_neg (by omega)
theorem own_div {P k : Nat} {o : Int} (h2 : 2 ≤ P) (hk : k < 2 * P) (ho : ownI P k = o) : (k : Int).tdiv (P : Int) = o ∧ 0 ≤ o ∧ o ≤ 1 := by
  subst ho
  rcases Nat.lt_or_ge k P with h | h
  · rw [ownI_lt h]
    refine ⟨?_, by omega, by omega⟩
    rw [← Int.ofNat_tdiv, Nat.div_eq_of_lt h]; rfl
  · rw [ownI_ge h]
    refine ⟨?_, by omega, by omega⟩
    rw [← Int.ofNat_tdiv, show k / P = 1 from Nat.div_eq_of_lt_le (by omega) (by omega)]; rfl
set_option maxHeartbeats 1000000 in
theorem owner_lit (r : Ru) (P k : Nat) (o : Int) (w : World) (hP : r.p = (P : Int)) (h2 : 2 ≤ P) (h8 : P ≤ 8) (hk : k < 2 * P) (ho : ownI P k = o) : Calls Try.prog 34 #[.agg #[.int .i64 r.p, .int .i64 r.s, .bool r.st, .bool r.sk, .bool r.re, .bool r.fe, .bool r.ag, .int .i64 r.ca, .int .i64 r.sl], .int .i64 k] w fun e w' => e = .returned (.int .i64 o) ∧ w' = w.alloc (.cells #[.int .i64 r.p, .int .i64 r.s, .bool r.st, .bool r.sk, .bool r.re, .bool r.fe, .bool r.ag, .int .i64 r.ca, .int .i64 r.sl] 25) := by
  obtain ⟨p, s, st, sk, re, fe, ag, ca, sl⟩ := r
  simp only at hP
  subst hP
  obtain ⟨hd, o0, o1⟩ := own_div h2 hk ho
  clear ho
  have hz : ¬ P = 0 := by omega
  have hz' : ((P : Int) == 0) = false := beq_eq_false_iff_ne.2 (by omega)
  have hw : IntKind.i64.wrap o = o := IntWalk.i64_in _ (by omega)
  go_enter Try.func34, Try.ntmps34
  go_wp2
  go_ret
  exact ⟨rfl, rfl⟩
set_option maxHeartbeats 1000000 in
theorem opposite_lit (r : Ru) (P k m : Nat) (w : World) (hP : r.p = (P : Int)) (h2 : 2 ≤ P) (h8 : P ≤ 8) (hk : k + m + 1 = 2 * P) : Calls Try.prog 43 #[.agg #[.int .i64 r.p, .int .i64 r.s, .bool r.st, .bool r.sk, .bool r.re, .bool r.fe, .bool r.ag, .int .i64 r.ca, .int .i64 r.sl], .int .i64 k] w fun e w' => e = .returned (.int .i64 m) ∧ w' = w.alloc (.cells #[.int .i64 r.p, .int .i64 r.s, .bool r.st, .bool r.sk, .bool r.re, .bool r.fe, .bool r.ag, .int .i64 r.ca, .int .i64 r.sl] 25) := by
  obtain ⟨p, s, st, sk, re, fe, ag, ca, sl⟩ := r
  simp only at hP
  subst hP
  have hw1 : IntKind.i64.wrap (2 * (P : Int)) = 2 * (P : Int) := IntWalk.i64_in _ (by omega)
  have hw2 : IntKind.i64.wrap (2 * (P : Int) - 1) = 2 * (P : Int) - 1 := IntWalk.i64_in _ (by omega)
  have hw3 : IntKind.i64.wrap (2 * (P : Int) - 1 - (k : Int)) = (m : Int) := by rw [IntWalk.i64_in _ (by omega)]; omega
  have hm : Hid (2 * (P : Int) - 1 - (k : Int) = (m : Int)) := by unfold Hid; omega
  go_enter Try.func43, Try.ntmps43
  go_wp2
  go_ret
  exact ⟨by first | rfl | rw [hm.out], rfl⟩
set_option maxHeartbeats 1000000 in
theorem isPit_lit (r : Ru) (P : Nat) (k : Int) (q : Bool) (w : World) (hP : r.p = (P : Int)) (h2 : 2 ≤ P) (h8 : P ≤ 8) (hq : inB k 0 (2 * (P : Int) - 1) = q) : Calls Try.prog 31 #[.agg #[.int .i64 r.p, .int .i64 r.s, .bool r.st, .bool r.sk, .bool r.re, .bool r.fe, .bool r.ag, .int .i64 r.ca, .int .i64 r.sl], .int .i64 k] w fun e w' => e = .returned (.bool q) ∧ w' = w.alloc (.cells #[.int .i64 r.p, .int .i64 r.s, .bool r.st, .bool r.sk, .bool r.re, .bool r.fe, .bool r.ag, .int .i64 r.ca, .int .i64 r.sl] 25) := by
  obtain ⟨p, s, st, sk, re, fe, ag, ca, sl⟩ := r
  simp only at hP
  subst hP hq
  have hw1 : IntKind.i64.wrap (2 * (P : Int)) = 2 * (P : Int) := IntWalk.i64_in _ (by omega)
  have hw2 : IntKind.i64.wrap (2 * (P : Int) - 1) = 2 * (P : Int) - 1 := IntWalk.i64_in _ (by omega)
  go_enter Try.func31, Try.ntmps31
  go_wp2_with (go_at_call 30; refine (between_any _ _ _ _).mono ?_; rintro e w_ ⟨rfl, rfl⟩)
  go_ret
  exact ⟨rfl, rfl⟩
end Go.Proofs.Ytcfbihponecblaa
