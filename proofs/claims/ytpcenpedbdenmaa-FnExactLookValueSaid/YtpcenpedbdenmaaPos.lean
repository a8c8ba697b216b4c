/- Valid positions, by both functions. Conditions: lengths below 2^20. -/
import Derived.Test.YtpcenpedbdenmaaSums
import Derived.BigQuiet
namespace Go.Proofs.Ytpcenpedbdenmaa
set_option linter.unusedSimpArgs false
set_option linter.unusedVariables false
open Go.RowKit

def okPos (r : Ru) (d : PositionD) : Bool := okRu r && decide ((d.pits.length : Int) = 2 * r.p) && decide (d.stores.length = 2) && inB d.player 0 1 && okL d.pits && okL d.stores && decide (psum d.pits d.pits.length + psum d.stores d.stores.length ≤ 96)
theorem okRu_of {r : Ru} (h : okRu r = true) : 2 ≤ r.p ∧ r.p ≤ 8 := by
  simp only [okRu, Bool.and_eq_true] at h
  exact inB_of h.1.1.1.1
theorem psum_all {zs : List Int} (h : okL zs = true) : 0 ≤ psum zs zs.length ∧ psum zs zs.length ≤ 96 * (zs.length : Int) := psum_bd (fun j hj => List.all_eq_true.1 h _ (getD_mem 0 hj))
theorem quiet_l {P : Program} {f : FuncId} {args : Array Value} {w : World} {n : Nat} {v : Value}
    (h : Calls P f args (w.drewN n) fun e w' => e = .returned v ∧ w.drewN n = w') : Calls P f args (w.drewN n) fun e w'' => e = .returned v ∧ ∃ m, w'' = w.drewN m :=
  h.mono fun _ _ ⟨he, hm⟩ => ⟨he, n, hm.symm⟩
theorem l02Ok_lit {r : Ru} {q : Bool} (hq : okRu r = q) (b o : Nat) (w : World) (h : RuAt w b o r) : Calls Try.prog 41 #[.pointer (some ⟨b, o, none⟩)] w fun e w' => e = .returned (.bool q) ∧ w = w' := by
  rw [← hq]; exact l02Ok_any r b o w h
theorem l00In_lit' {n a b : Int} {r : Bool} (h : inB n a b = r) (w : World) : Calls Try.prog 42 #[.int .i64 n, .int .i64 a, .int .i64 b] w fun e w' => e = .returned (.bool r) ∧ w = w' := by
  rw [← h]; exact l00In_any _ _ _ _
/-- A position that lies at a place. -/
structure PosAt (w : World) (b o : Nat) (A1 : Option Addr) (n1 c1 : Nat) (A2 : Option Addr) (n2 c2 : Nat) (d : PositionD) : Prop where
  c0 : w.cell? ⟨b, o, none⟩ = some (.slice A1 n1 c1)
  c1 : w.cell? ⟨b, o + 1, none⟩ = some (.slice A2 n2 c2)
  c2 : w.cell? ⟨b, o + 2, none⟩ = some (.int .i64 d.player)
  s1 : Sl w w.heap.size 1 A1 n1 (d.pits.map (Value.int .i64))
  s2 : Sl w w.heap.size 1 A2 n2 (d.stores.map (Value.int .i64))
theorem PosAt.later {w w' : World} {b o : Nat} {A1 A2 : Option Addr} {n1 c1 n2 c2 : Nat} {d : PositionD} (h : PosAt w b o A1 n1 c1 A2 n2 c2 d) (hb : Below w.heap.size w w') : PosAt w' b o A1 n1 c1 A2 n2 c2 d := by
  have hl := cell_lt h.c0
  exact ⟨(hb.cell (p := ⟨b, o, none⟩) hl).trans h.c0, (hb.cell (p := ⟨b, o + 1, none⟩) hl).trans h.c1, (hb.cell (p := ⟨b, o + 2, none⟩) hl).trans h.c2, h.s1.later hb, h.s2.later hb⟩
theorem PosAt.drewN {w : World} {b o : Nat} {A1 A2 : Option Addr} {n1 c1 n2 c2 : Nat} {d : PositionD} (h : PosAt w b o A1 n1 c1 A2 n2 c2 d) (k : Nat) : PosAt (w.drewN k) b o A1 n1 c1 A2 n2 c2 d := ⟨h.c0, h.c1, h.c2, h.s1.drewN k, h.s2.drewN k⟩

set_option maxRecDepth 100000 in
set_option maxHeartbeats 4000000 in
theorem ValidPosition_two (r : Ru) (cs : List Value) (d : PositionD) (w : World) (h : XPosition w cs d) (hsz : d.pits.length ≤ 1048576 ∧ d.stores.length ≤ 1048576) : Calls Try.prog 79 #[.agg #[.int .i64 r.p, .int .i64 r.s, .bool r.st, .bool r.sk, .bool r.re, .bool r.fe, .bool r.ag, .int .i64 r.ca, .int .i64 r.sl], .agg cs.toArray] w fun e w' => e = .returned (.bool (okPos r d)) ∧ Below w.heap.size w w' := by
  obtain ⟨A1, n1, c1, A2, n2, c2, e, s1, l1, s2, l2⟩ := h
  subst e
  have e1 := s1.ints
  have e2 := s2.ints
  have q1 : n1 ≤ 1048576 := by omega
  have q2 : n2 ≤ 1048576 := by omega
  have S1 := Lib.hid s1
  have S2 := Lib.hid s2
  clear hsz s1 s2
  obtain ⟨q, hq⟩ : ∃ q, okPos r d = q := ⟨_, rfl⟩
  have HQ := Lib.hid hq
  clear hq
  rw [HQ.out]
  have E1 := Lib.hid e1
  have E2 := Lib.hid e2
  clear e1 e2
  cases g1 : okRu r
  all_goals have QR := Lib.hid g1
  case false =>
    obtain rfl : q = false := by
      rw [← HQ.out, okPos]; simp [g1]
    go_enter Try.func79, Try.ntmps79
    go_wp2_with (first | (go_at_call 43; refine (ValidRules_lit r _).mono ?_; rintro e w_ ⟨rfl, rfl⟩) | (go_at_call 91; refine (isPlayer_any _ _).mono ?_; rintro e w_ ⟨rfl, rfl⟩))
    all_goals
      go_ret
      exact ⟨by first | rfl | simp [*], by (repeat' (first | (with_reducible exact Below.refl _ _) | (with_reducible assumption) | (with_reducible refine Below.alloc ?_ ?_ _) | (with_reducible refine Below.drew ?_) | (with_reducible refine belowDrewN ?_ _) | (with_reducible refine Below.setCell ?_ ?_ _) | (with_reducible refine Below.via (by with_reducible assumption) ?_ ?_) | (with_reducible refine Below.viaD (by with_reducible assumption) ?_ ?_) | (with_reducible exact Below.size (by with_reducible assumption)) | go_size | (with_reducible refine Nat.le_trans ?_ (Below.size (by with_reducible assumption))) | (with_reducible refine Nat.le_trans ?_ (sizeAlloc _ _)) | (with_reducible refine Nat.le_trans ?_ (sizeSet _ _ _)) | (with_reducible refine Nat.le_trans ?_ (sizeDrew _))))⟩
  case true =>
    obtain ⟨b1, b2⟩ := okRu_of g1
    have hw : IntKind.i64.wrap (2 * r.p) = 2 * r.p := IntWalk.i64_in _ (by omega)
    by_cases g2 : (n1 : Int) = 2 * r.p
    case neg =>
      have g2b : ((n1 : Int) == 2 * r.p) = false := beq_eq_false_iff_ne.2 g2
      have g2c : ((n1 : Int) != 2 * r.p) = true := by rw [bne, g2b]; rfl
      obtain rfl : q = false := by
        rw [← HQ.out, okPos]; simp [g1, E1.out, g2]
      go_enter Try.func79, Try.ntmps79
      go_wp2_with (first | (go_at_call 43; refine (ValidRules_lit r _).mono ?_; rintro e w_ ⟨rfl, rfl⟩) | (go_at_call 91; refine (isPlayer_any _ _).mono ?_; rintro e w_ ⟨rfl, rfl⟩))
      all_goals
        go_ret
        exact ⟨by first | rfl | simp [*], by (repeat' (first | (with_reducible exact Below.refl _ _) | (with_reducible assumption) | (with_reducible refine Below.alloc ?_ ?_ _) | (with_reducible refine Below.drew ?_) | (with_reducible refine belowDrewN ?_ _) | (with_reducible refine Below.setCell ?_ ?_ _) | (with_reducible refine Below.via (by with_reducible assumption) ?_ ?_) | (with_reducible refine Below.viaD (by with_reducible assumption) ?_ ?_) | (with_reducible exact Below.size (by with_reducible assumption)) | go_size | (with_reducible refine Nat.le_trans ?_ (Below.size (by with_reducible assumption))) | (with_reducible refine Nat.le_trans ?_ (sizeAlloc _ _)) | (with_reducible refine Nat.le_trans ?_ (sizeSet _ _ _)) | (with_reducible refine Nat.le_trans ?_ (sizeDrew _))))⟩
    case pos =>
      have g2b : ((n1 : Int) == 2 * r.p) = true := beq_iff_eq.2 g2
      have g2c : ((n1 : Int) != 2 * r.p) = false := by rw [bne, g2b]; rfl
      have G2 := Lib.hid g2
      clear g2
      by_cases g3 : n2 = 2
      case neg =>
        have g3b : ((n2 : Int) == 2) = false := beq_eq_false_iff_ne.2 (by omega)
        have g3c : ((n2 : Int) != 2) = true := by rw [bne, g3b]; rfl
        obtain rfl : q = false := by
          rw [← HQ.out, okPos]; simp [g1, E1.out, E2.out, g3]
        go_enter Try.func79, Try.ntmps79
        go_wp2_with (first | (go_at_call 43; refine (ValidRules_lit r _).mono ?_; rintro e w_ ⟨rfl, rfl⟩) | (go_at_call 91; refine (isPlayer_any _ _).mono ?_; rintro e w_ ⟨rfl, rfl⟩))
        all_goals
          go_ret
          exact ⟨by first | rfl | simp [*], by (repeat' (first | (with_reducible exact Below.refl _ _) | (with_reducible assumption) | (with_reducible refine Below.alloc ?_ ?_ _) | (with_reducible refine Below.drew ?_) | (with_reducible refine belowDrewN ?_ _) | (with_reducible refine Below.setCell ?_ ?_ _) | (with_reducible refine Below.via (by with_reducible assumption) ?_ ?_) | (with_reducible refine Below.viaD (by with_reducible assumption) ?_ ?_) | (with_reducible exact Below.size (by with_reducible assumption)) | go_size | (with_reducible refine Nat.le_trans ?_ (Below.size (by with_reducible assumption))) | (with_reducible refine Nat.le_trans ?_ (sizeAlloc _ _)) | (with_reducible refine Nat.le_trans ?_ (sizeSet _ _ _)) | (with_reducible refine Nat.le_trans ?_ (sizeDrew _))))⟩
      case pos =>
        subst g3
        cases g4 : inB d.player 0 1
        all_goals have QP := Lib.hid g4
        case false =>
          obtain rfl : q = false := by
            rw [← HQ.out, okPos]; simp [g4]
          go_enter Try.func79, Try.ntmps79
          go_wp2_with (first | (go_at_call 43; refine (ValidRules_lit r _).mono ?_; rintro e w_ ⟨rfl, rfl⟩) | (go_at_call 91; refine (isPlayer_any _ _).mono ?_; rintro e w_ ⟨rfl, rfl⟩))
          all_goals
            go_ret
            exact ⟨by first | rfl | simp [*], by (repeat' (first | (with_reducible exact Below.refl _ _) | (with_reducible assumption) | (with_reducible refine Below.alloc ?_ ?_ _) | (with_reducible refine Below.drew ?_) | (with_reducible refine belowDrewN ?_ _) | (with_reducible refine Below.setCell ?_ ?_ _) | (with_reducible refine Below.via (by with_reducible assumption) ?_ ?_) | (with_reducible refine Below.viaD (by with_reducible assumption) ?_ ?_) | (with_reducible exact Below.size (by with_reducible assumption)) | go_size | (with_reducible refine Nat.le_trans ?_ (Below.size (by with_reducible assumption))) | (with_reducible refine Nat.le_trans ?_ (sizeAlloc _ _)) | (with_reducible refine Nat.le_trans ?_ (sizeSet _ _ _)) | (with_reducible refine Nat.le_trans ?_ (sizeDrew _))))⟩
        case true =>
          obtain ⟨u1, x1, hr1⟩ : ∃ u x, sumR d.pits n1 = (u, x) := ⟨_, _, rfl⟩
          obtain ⟨u2, x2, hr2⟩ : ∃ u x, sumR d.stores 2 = (u, x) := ⟨_, _, rfl⟩
          have R1 := Lib.hid hr1
          have R2 := Lib.hid hr2
          unfold sumR at hr1 hr2
          cases g5 : okL d.pits
          case false =>
            rw [g5, if_neg (by simp)] at hr1
            obtain ⟨rfl, rfl⟩ := pairB hr1
            clear hr1 hr2
            obtain rfl : q = false := by
              rw [← HQ.out, okPos]; simp [g5]
            go_enter Try.func79, Try.ntmps79
            go_wp2_with (first | (go_at_call 43; refine (ValidRules_lit r _).mono ?_; rintro e w_ ⟨rfl, rfl⟩) | (go_at_call 91; refine (isPlayer_any _ _).mono ?_; rintro e w_ ⟨rfl, rfl⟩) | (go_at_call 92; (with_reducible refine Calls.mono (sumOf_any A1 n1 c1 d.pits _ ?_ q1 _ _ R1.out) ?_); (exact S1.out.later (by (repeat' (first | (with_reducible exact Below.refl _ _) | (with_reducible assumption) | (with_reducible refine Below.alloc ?_ ?_ _) | (with_reducible refine Below.drew ?_) | (with_reducible refine belowDrewN ?_ _) | (with_reducible refine Below.setCell ?_ ?_ _) | (with_reducible refine Below.via (by with_reducible assumption) ?_ ?_) | (with_reducible refine Below.viaD (by with_reducible assumption) ?_ ?_) | (with_reducible exact Below.size (by with_reducible assumption)) | go_size | (with_reducible refine Nat.le_trans ?_ (Below.size (by with_reducible assumption))) | (with_reducible refine Nat.le_trans ?_ (sizeAlloc _ _)) | (with_reducible refine Nat.le_trans ?_ (sizeSet _ _ _)) | (with_reducible refine Nat.le_trans ?_ (sizeDrew _)))))); rintro e w_ ⟨rfl, rfl⟩) | (go_at_call 92; (with_reducible refine Calls.mono (sumOf_any A2 2 c2 d.stores _ ?_ q2 _ _ R2.out) ?_); (exact S2.out.later (by (repeat' (first | (with_reducible exact Below.refl _ _) | (with_reducible assumption) | (with_reducible refine Below.alloc ?_ ?_ _) | (with_reducible refine Below.drew ?_) | (with_reducible refine belowDrewN ?_ _) | (with_reducible refine Below.setCell ?_ ?_ _) | (with_reducible refine Below.via (by with_reducible assumption) ?_ ?_) | (with_reducible refine Below.viaD (by with_reducible assumption) ?_ ?_) | (with_reducible exact Below.size (by with_reducible assumption)) | go_size | (with_reducible refine Nat.le_trans ?_ (Below.size (by with_reducible assumption))) | (with_reducible refine Nat.le_trans ?_ (sizeAlloc _ _)) | (with_reducible refine Nat.le_trans ?_ (sizeSet _ _ _)) | (with_reducible refine Nat.le_trans ?_ (sizeDrew _)))))); rintro e w_ ⟨rfl, rfl⟩))
            all_goals
              go_ret
              exact ⟨by first | rfl | simp [*], by (repeat' (first | (with_reducible exact Below.refl _ _) | (with_reducible assumption) | (with_reducible refine Below.alloc ?_ ?_ _) | (with_reducible refine Below.drew ?_) | (with_reducible refine belowDrewN ?_ _) | (with_reducible refine Below.setCell ?_ ?_ _) | (with_reducible refine Below.via (by with_reducible assumption) ?_ ?_) | (with_reducible refine Below.viaD (by with_reducible assumption) ?_ ?_) | (with_reducible exact Below.size (by with_reducible assumption)) | go_size | (with_reducible refine Nat.le_trans ?_ (Below.size (by with_reducible assumption))) | (with_reducible refine Nat.le_trans ?_ (sizeAlloc _ _)) | (with_reducible refine Nat.le_trans ?_ (sizeSet _ _ _)) | (with_reducible refine Nat.le_trans ?_ (sizeDrew _))))⟩
          case true =>
            rw [g5, if_pos rfl] at hr1
            obtain ⟨rfl, rfl⟩ := pairB hr1
            clear hr1
            cases g6 : okL d.stores
            case false =>
              rw [g6, if_neg (by simp)] at hr2
              obtain ⟨rfl, rfl⟩ := pairB hr2
              clear hr2
              obtain rfl : q = false := by
                rw [← HQ.out, okPos]; simp [g6]
              go_enter Try.func79, Try.ntmps79
              go_wp2_with (first | (go_at_call 43; refine (ValidRules_lit r _).mono ?_; rintro e w_ ⟨rfl, rfl⟩) | (go_at_call 91; refine (isPlayer_any _ _).mono ?_; rintro e w_ ⟨rfl, rfl⟩) | (go_at_call 92; (with_reducible refine Calls.mono (sumOf_any A1 n1 c1 d.pits _ ?_ q1 _ _ R1.out) ?_); (exact S1.out.later (by (repeat' (first | (with_reducible exact Below.refl _ _) | (with_reducible assumption) | (with_reducible refine Below.alloc ?_ ?_ _) | (with_reducible refine Below.drew ?_) | (with_reducible refine belowDrewN ?_ _) | (with_reducible refine Below.setCell ?_ ?_ _) | (with_reducible refine Below.via (by with_reducible assumption) ?_ ?_) | (with_reducible refine Below.viaD (by with_reducible assumption) ?_ ?_) | (with_reducible exact Below.size (by with_reducible assumption)) | go_size | (with_reducible refine Nat.le_trans ?_ (Below.size (by with_reducible assumption))) | (with_reducible refine Nat.le_trans ?_ (sizeAlloc _ _)) | (with_reducible refine Nat.le_trans ?_ (sizeSet _ _ _)) | (with_reducible refine Nat.le_trans ?_ (sizeDrew _)))))); rintro e w_ ⟨rfl, rfl⟩) | (go_at_call 92; (with_reducible refine Calls.mono (sumOf_any A2 2 c2 d.stores _ ?_ q2 _ _ R2.out) ?_); (exact S2.out.later (by (repeat' (first | (with_reducible exact Below.refl _ _) | (with_reducible assumption) | (with_reducible refine Below.alloc ?_ ?_ _) | (with_reducible refine Below.drew ?_) | (with_reducible refine belowDrewN ?_ _) | (with_reducible refine Below.setCell ?_ ?_ _) | (with_reducible refine Below.via (by with_reducible assumption) ?_ ?_) | (with_reducible refine Below.viaD (by with_reducible assumption) ?_ ?_) | (with_reducible exact Below.size (by with_reducible assumption)) | go_size | (with_reducible refine Nat.le_trans ?_ (Below.size (by with_reducible assumption))) | (with_reducible refine Nat.le_trans ?_ (sizeAlloc _ _)) | (with_reducible refine Nat.le_trans ?_ (sizeSet _ _ _)) | (with_reducible refine Nat.le_trans ?_ (sizeDrew _)))))); rintro e w_ ⟨rfl, rfl⟩))
              all_goals
                go_ret
                exact ⟨by first | rfl | simp [*], by (repeat' (first | (with_reducible exact Below.refl _ _) | (with_reducible assumption) | (with_reducible refine Below.alloc ?_ ?_ _) | (with_reducible refine Below.drew ?_) | (with_reducible refine belowDrewN ?_ _) | (with_reducible refine Below.setCell ?_ ?_ _) | (with_reducible refine Below.via (by with_reducible assumption) ?_ ?_) | (with_reducible refine Below.viaD (by with_reducible assumption) ?_ ?_) | (with_reducible exact Below.size (by with_reducible assumption)) | go_size | (with_reducible refine Nat.le_trans ?_ (Below.size (by with_reducible assumption))) | (with_reducible refine Nat.le_trans ?_ (sizeAlloc _ _)) | (with_reducible refine Nat.le_trans ?_ (sizeSet _ _ _)) | (with_reducible refine Nat.le_trans ?_ (sizeDrew _))))⟩
            case true =>
              rw [g6, if_pos rfl] at hr2
              obtain ⟨rfl, rfl⟩ := pairB hr2
              clear hr2
              have t1 := psum_all g5
              have t2 := psum_all g6
              rw [E1.out] at t1
              rw [E2.out] at t2
              obtain ⟨y1, hy1⟩ : ∃ y, psum d.pits n1 = y := ⟨_, rfl⟩
              obtain ⟨y2, hy2⟩ : ∃ y, psum d.stores 2 = y := ⟨_, rfl⟩
              have Y1 := Lib.hid hy1
              have Y2 := Lib.hid hy2
              rw [hy1] at t1 R1
              rw [hy2] at t2 R2
              clear hy1 hy2
              by_cases g7 : y1 + y2 ≤ 96
              case pos =>
                obtain rfl : q = true := by
                  rw [← HQ.out, okPos]; simp [g1, E1.out, E2.out, G2.out, g4, g5, g6, Y1.out, Y2.out, g7]
                go_enter Try.func79, Try.ntmps79
                go_wp2_with (first | (go_at_call 43; refine (ValidRules_lit r _).mono ?_; rintro e w_ ⟨rfl, rfl⟩) | (go_at_call 91; refine (isPlayer_any _ _).mono ?_; rintro e w_ ⟨rfl, rfl⟩) | (go_at_call 92; (with_reducible refine Calls.mono (sumOf_any A1 n1 c1 d.pits _ ?_ q1 _ _ R1.out) ?_); (exact S1.out.later (by (repeat' (first | (with_reducible exact Below.refl _ _) | (with_reducible assumption) | (with_reducible refine Below.alloc ?_ ?_ _) | (with_reducible refine Below.drew ?_) | (with_reducible refine belowDrewN ?_ _) | (with_reducible refine Below.setCell ?_ ?_ _) | (with_reducible refine Below.via (by with_reducible assumption) ?_ ?_) | (with_reducible refine Below.viaD (by with_reducible assumption) ?_ ?_) | (with_reducible exact Below.size (by with_reducible assumption)) | go_size | (with_reducible refine Nat.le_trans ?_ (Below.size (by with_reducible assumption))) | (with_reducible refine Nat.le_trans ?_ (sizeAlloc _ _)) | (with_reducible refine Nat.le_trans ?_ (sizeSet _ _ _)) | (with_reducible refine Nat.le_trans ?_ (sizeDrew _)))))); rintro e w_ ⟨rfl, rfl⟩) | (go_at_call 92; (with_reducible refine Calls.mono (sumOf_any A2 2 c2 d.stores _ ?_ q2 _ _ R2.out) ?_); (exact S2.out.later (by (repeat' (first | (with_reducible exact Below.refl _ _) | (with_reducible assumption) | (with_reducible refine Below.alloc ?_ ?_ _) | (with_reducible refine Below.drew ?_) | (with_reducible refine belowDrewN ?_ _) | (with_reducible refine Below.setCell ?_ ?_ _) | (with_reducible refine Below.via (by with_reducible assumption) ?_ ?_) | (with_reducible refine Below.viaD (by with_reducible assumption) ?_ ?_) | (with_reducible exact Below.size (by with_reducible assumption)) | go_size | (with_reducible refine Nat.le_trans ?_ (Below.size (by with_reducible assumption))) | (with_reducible refine Nat.le_trans ?_ (sizeAlloc _ _)) | (with_reducible refine Nat.le_trans ?_ (sizeSet _ _ _)) | (with_reducible refine Nat.le_trans ?_ (sizeDrew _)))))); rintro e w_ ⟨rfl, rfl⟩))
                all_goals
                  go_ret
                  exact ⟨by first | rfl | simp [*], by (repeat' (first | (with_reducible exact Below.refl _ _) | (with_reducible assumption) | (with_reducible refine Below.alloc ?_ ?_ _) | (with_reducible refine Below.drew ?_) | (with_reducible refine belowDrewN ?_ _) | (with_reducible refine Below.setCell ?_ ?_ _) | (with_reducible refine Below.via (by with_reducible assumption) ?_ ?_) | (with_reducible refine Below.viaD (by with_reducible assumption) ?_ ?_) | (with_reducible exact Below.size (by with_reducible assumption)) | go_size | (with_reducible refine Nat.le_trans ?_ (Below.size (by with_reducible assumption))) | (with_reducible refine Nat.le_trans ?_ (sizeAlloc _ _)) | (with_reducible refine Nat.le_trans ?_ (sizeSet _ _ _)) | (with_reducible refine Nat.le_trans ?_ (sizeDrew _))))⟩
              case neg =>
                obtain rfl : q = false := by
                  rw [← HQ.out, okPos]; simp [E1.out, E2.out, Y1.out, Y2.out, g7]
                go_enter Try.func79, Try.ntmps79
                go_wp2_with (first | (go_at_call 43; refine (ValidRules_lit r _).mono ?_; rintro e w_ ⟨rfl, rfl⟩) | (go_at_call 91; refine (isPlayer_any _ _).mono ?_; rintro e w_ ⟨rfl, rfl⟩) | (go_at_call 92; (with_reducible refine Calls.mono (sumOf_any A1 n1 c1 d.pits _ ?_ q1 _ _ R1.out) ?_); (exact S1.out.later (by (repeat' (first | (with_reducible exact Below.refl _ _) | (with_reducible assumption) | (with_reducible refine Below.alloc ?_ ?_ _) | (with_reducible refine Below.drew ?_) | (with_reducible refine belowDrewN ?_ _) | (with_reducible refine Below.setCell ?_ ?_ _) | (with_reducible refine Below.via (by with_reducible assumption) ?_ ?_) | (with_reducible refine Below.viaD (by with_reducible assumption) ?_ ?_) | (with_reducible exact Below.size (by with_reducible assumption)) | go_size | (with_reducible refine Nat.le_trans ?_ (Below.size (by with_reducible assumption))) | (with_reducible refine Nat.le_trans ?_ (sizeAlloc _ _)) | (with_reducible refine Nat.le_trans ?_ (sizeSet _ _ _)) | (with_reducible refine Nat.le_trans ?_ (sizeDrew _)))))); rintro e w_ ⟨rfl, rfl⟩) | (go_at_call 92; (with_reducible refine Calls.mono (sumOf_any A2 2 c2 d.stores _ ?_ q2 _ _ R2.out) ?_); (exact S2.out.later (by (repeat' (first | (with_reducible exact Below.refl _ _) | (with_reducible assumption) | (with_reducible refine Below.alloc ?_ ?_ _) | (with_reducible refine Below.drew ?_) | (with_reducible refine belowDrewN ?_ _) | (with_reducible refine Below.setCell ?_ ?_ _) | (with_reducible refine Below.via (by with_reducible assumption) ?_ ?_) | (with_reducible refine Below.viaD (by with_reducible assumption) ?_ ?_) | (with_reducible exact Below.size (by with_reducible assumption)) | go_size | (with_reducible refine Nat.le_trans ?_ (Below.size (by with_reducible assumption))) | (with_reducible refine Nat.le_trans ?_ (sizeAlloc _ _)) | (with_reducible refine Nat.le_trans ?_ (sizeSet _ _ _)) | (with_reducible refine Nat.le_trans ?_ (sizeDrew _)))))); rintro e w_ ⟨rfl, rfl⟩))
                all_goals
                  go_ret
                  exact ⟨by first | rfl | simp [*], by (repeat' (first | (with_reducible exact Below.refl _ _) | (with_reducible assumption) | (with_reducible refine Below.alloc ?_ ?_ _) | (with_reducible refine Below.drew ?_) | (with_reducible refine belowDrewN ?_ _) | (with_reducible refine Below.setCell ?_ ?_ _) | (with_reducible refine Below.via (by with_reducible assumption) ?_ ?_) | (with_reducible refine Below.viaD (by with_reducible assumption) ?_ ?_) | (with_reducible exact Below.size (by with_reducible assumption)) | go_size | (with_reducible refine Nat.le_trans ?_ (Below.size (by with_reducible assumption))) | (with_reducible refine Nat.le_trans ?_ (sizeAlloc _ _)) | (with_reducible refine Nat.le_trans ?_ (sizeSet _ _ _)) | (with_reducible refine Nat.le_trans ?_ (sizeDrew _))))⟩
theorem ValidPosition_any (r : Ru) (cs : List Value) (d : PositionD) (w : World) (h : XPosition w cs d) (hsz : szPosition d ≤ 1048576) : Calls Try.prog 79 #[.agg #[.int .i64 r.p, .int .i64 r.s, .bool r.st, .bool r.sk, .bool r.re, .bool r.fe, .bool r.ag, .int .i64 r.ca, .int .i64 r.sl], .agg cs.toArray] w fun e w' => e = .returned (.bool (okPos r d)) ∧ Below w.heap.size w w' :=
  ValidPosition_two r cs d w h ⟨by unfold szPosition at hsz; omega, by unfold szPosition at hsz; omega⟩
theorem sumS_bd {zs : List Int} {n : Nat} {u : Int} (hl : zs.length = n) (h : sumS zs n = u) : -1 ≤ u ∧ u ≤ 96 := by
  subst hl
  rw [sumS] at h
  split at h
  · rename_i g
    rw [Bool.and_eq_true] at g
    have := psum_all g.1
    have := of_decide_eq_true g.2
    omega
  · omega
theorem okPos_sums {r : Ru} {d : PositionD} {n1 n2 : Nat} (g1 : okRu r = true) (e1 : d.pits.length = n1) (g2 : (n1 : Int) = 2 * r.p) (e2 : d.stores.length = n2) (h2 : n2 = 2) (g4 : inB d.player 0 1 = true) :
    okPos r d = (decide (0 ≤ sumS d.pits n1) && decide (0 ≤ sumS d.stores n2) && decide (sumS d.pits n1 + sumS d.stores n2 ≤ 96)) := by
  rw [okPos, g1, g4, e1, decide_eq_true g2, e2, decide_eq_true h2, sumS, sumS]
  cases a1 : okL d.pits
  case false => simp
  case true =>
    cases a2 : okL d.stores
    case false => simp
    case true =>
      have t1 := psum_all a1
      have t2 := psum_all a2
      rw [e1] at t1
      rw [e2] at t2
      by_cases h1 : psum d.pits n1 ≤ 96 <;> by_cases h3 : psum d.stores n2 ≤ 96 <;> by_cases h4 : psum d.pits n1 + psum d.stores n2 ≤ 96 <;> simp [h1, h3, h4, t1.1, t2.1] <;> omega
set_option maxRecDepth 100000 in
set_option maxHeartbeats 4000000 in
theorem l04Ok_two (r : Ru) (b o b2 o2 : Nat) (A1 A2 : Option Addr) (n1 c1 n2 c2 : Nat) (d : PositionD) (w : World) (hr : RuAt w b o r) (hp : PosAt w b2 o2 A1 n1 c1 A2 n2 c2 d) (hsz : d.pits.length ≤ 1048576 ∧ d.stores.length ≤ 1048576) : Calls Try.prog 82 #[.pointer (some ⟨b, o, none⟩), .pointer (some ⟨b2, o2, none⟩)] w fun e w' => e = .returned (.bool (okPos r d)) ∧ ∃ m, w' = w.drewN m := by
  obtain ⟨p0, p1, p2, s1, s2⟩ := hp
  have HRU := Lib.hid hr
  have r0 := hr.c0
  clear hr
  have e1 := s1.ints
  have e2 := s2.ints
  have q1 : n1 ≤ 1048576 := by omega
  have q2 : n2 ≤ 1048576 := by omega
  have S1 := Lib.hid s1
  have S2 := Lib.hid s2
  clear hsz s1 s2
  obtain ⟨q, hq⟩ : ∃ q, okPos r d = q := ⟨_, rfl⟩
  have HQ := Lib.hid hq
  clear hq
  rw [HQ.out]
  have E1 := Lib.hid e1
  have E2 := Lib.hid e2
  clear e1 e2
  cases g1 : okRu r
  all_goals have QR := Lib.hid g1
  case false =>
    obtain rfl : q = false := by
      rw [← HQ.out, okPos]; simp [g1]
    go_enter Try.func82, Try.ntmps82
    go_wp2_with fail
    first | (refine wp_region_quiet_lit (by kernel_rfl) (by kernel_rfl) ?_; refine WQ.of ?_; (repeat (refine WQ.step (fun K hK => ?_); go_simp; first | (refine hK _ ?_; clear hK K) | (apply Exists.intro; refine ⟨fun _ => ?_, hK _ ?_⟩; ((first | (go_at_call 41; exact quiet_l (l02Ok_lit QR.out b o _ (HRU.out.drewN _))) | (go_at_call 42; exact quiet_l (l00In_lit' QP.out _)))); clear hK K))); refine WQ.nil ?_; intro _ hw'; obtain ⟨nq, hw''⟩ := hw'; subst hw'') | go_quiet ((first | (go_at_call 41; exact quiet_l (l02Ok_lit QR.out b o _ (HRU.out.drewN _))) | (go_at_call 42; exact quiet_l (l00In_lit' QP.out _))))
    go_wp2_with fail
    all_goals
      go_ret
      exact ⟨by first | rfl | simp [*], _, rfl⟩
  case true =>
    obtain ⟨b1, b2⟩ := okRu_of g1
    have hw : IntKind.i64.wrap (2 * r.p) = 2 * r.p := IntWalk.i64_in _ (by omega)
    by_cases g2 : (n1 : Int) = 2 * r.p
    case neg =>
      have g2b : ((n1 : Int) == 2 * r.p) = false := beq_eq_false_iff_ne.2 g2
      have g2c : ((n1 : Int) != 2 * r.p) = true := by rw [bne, g2b]; rfl
      obtain rfl : q = false := by
        rw [← HQ.out, okPos]; simp [g1, E1.out, g2]
      go_enter Try.func82, Try.ntmps82
      go_wp2_with fail
      first | (refine wp_region_quiet_lit (by kernel_rfl) (by kernel_rfl) ?_; refine WQ.of ?_; (repeat (refine WQ.step (fun K hK => ?_); go_simp; first | (refine hK _ ?_; clear hK K) | (apply Exists.intro; refine ⟨fun _ => ?_, hK _ ?_⟩; ((first | (go_at_call 41; exact quiet_l (l02Ok_lit QR.out b o _ (HRU.out.drewN _))) | (go_at_call 42; exact quiet_l (l00In_lit' QP.out _)))); clear hK K))); refine WQ.nil ?_; intro _ hw'; obtain ⟨nq, hw''⟩ := hw'; subst hw'') | go_quiet ((first | (go_at_call 41; exact quiet_l (l02Ok_lit QR.out b o _ (HRU.out.drewN _))) | (go_at_call 42; exact quiet_l (l00In_lit' QP.out _))))
      go_wp2_with fail
      all_goals
        go_ret
        exact ⟨by first | rfl | simp [*], _, rfl⟩
    case pos =>
      have g2b : ((n1 : Int) == 2 * r.p) = true := beq_iff_eq.2 g2
      have g2c : ((n1 : Int) != 2 * r.p) = false := by rw [bne, g2b]; rfl
      have G2 := Lib.hid g2
      clear g2
      by_cases g3 : n2 = 2
      case neg =>
        have g3b : ((n2 : Int) == 2) = false := beq_eq_false_iff_ne.2 (by omega)
        have g3c : ((n2 : Int) != 2) = true := by rw [bne, g3b]; rfl
        obtain rfl : q = false := by
          rw [← HQ.out, okPos]; simp [g1, E1.out, E2.out, g3]
        go_enter Try.func82, Try.ntmps82
        go_wp2_with fail
        first | (refine wp_region_quiet_lit (by kernel_rfl) (by kernel_rfl) ?_; refine WQ.of ?_; (repeat (refine WQ.step (fun K hK => ?_); go_simp; first | (refine hK _ ?_; clear hK K) | (apply Exists.intro; refine ⟨fun _ => ?_, hK _ ?_⟩; ((first | (go_at_call 41; exact quiet_l (l02Ok_lit QR.out b o _ (HRU.out.drewN _))) | (go_at_call 42; exact quiet_l (l00In_lit' QP.out _)))); clear hK K))); refine WQ.nil ?_; intro _ hw'; obtain ⟨nq, hw''⟩ := hw'; subst hw'') | go_quiet ((first | (go_at_call 41; exact quiet_l (l02Ok_lit QR.out b o _ (HRU.out.drewN _))) | (go_at_call 42; exact quiet_l (l00In_lit' QP.out _))))
        go_wp2_with fail
        all_goals
          go_ret
          exact ⟨by first | rfl | simp [*], _, rfl⟩
      case pos =>
        subst g3
        cases g4 : inB d.player 0 1
        all_goals have QP := Lib.hid g4
        case false =>
          obtain rfl : q = false := by
            rw [← HQ.out, okPos]; simp [g4]
          go_enter Try.func82, Try.ntmps82
          go_wp2_with fail
          first | (refine wp_region_quiet_lit (by kernel_rfl) (by kernel_rfl) ?_; refine WQ.of ?_; (repeat (refine WQ.step (fun K hK => ?_); go_simp; first | (refine hK _ ?_; clear hK K) | (apply Exists.intro; refine ⟨fun _ => ?_, hK _ ?_⟩; ((first | (go_at_call 41; exact quiet_l (l02Ok_lit QR.out b o _ (HRU.out.drewN _))) | (go_at_call 42; exact quiet_l (l00In_lit' QP.out _)))); clear hK K))); refine WQ.nil ?_; intro _ hw'; obtain ⟨nq, hw''⟩ := hw'; subst hw'') | go_quiet ((first | (go_at_call 41; exact quiet_l (l02Ok_lit QR.out b o _ (HRU.out.drewN _))) | (go_at_call 42; exact quiet_l (l00In_lit' QP.out _))))
          go_wp2_with fail
          all_goals
            go_ret
            exact ⟨by first | rfl | simp [*], _, rfl⟩
        case true =>
          obtain ⟨u1, hr1⟩ : ∃ u, sumS d.pits n1 = u := ⟨_, rfl⟩
          obtain ⟨u2, hr2⟩ : ∃ u, sumS d.stores 2 = u := ⟨_, rfl⟩
          have R1 := Lib.hid hr1
          have R2 := Lib.hid hr2
          have hE : q = (decide (0 ≤ u1) && decide (0 ≤ u2) && decide (u1 + u2 ≤ 96)) := by
            rw [← HQ.out, ← hr1, ← hr2]; exact okPos_sums g1 E1.out G2.out E2.out rfl g4
          obtain ⟨v1, v2⟩ := sumS_bd E1.out hr1
          obtain ⟨v3, v4⟩ := sumS_bd E2.out hr2
          clear hr1 hr2
          by_cases g5 : 0 ≤ u1
          case neg =>
            obtain rfl : q = false := by rw [hE]; simp [*]
            clear hE
            go_enter Try.func82, Try.ntmps82
            go_wp2_with fail
            first | (refine wp_region_quiet_lit (by kernel_rfl) (by kernel_rfl) ?_; refine WQ.of ?_; (repeat (refine WQ.step (fun K hK => ?_); go_simp; first | (refine hK _ ?_; clear hK K) | (apply Exists.intro; refine ⟨fun _ => ?_, hK _ ?_⟩; ((first | (go_at_call 41; exact quiet_l (l02Ok_lit QR.out b o _ (HRU.out.drewN _))) | (go_at_call 42; exact quiet_l (l00In_lit' QP.out _)))); clear hK K))); refine WQ.nil ?_; intro _ hw'; obtain ⟨nq, hw''⟩ := hw'; subst hw'') | go_quiet ((first | (go_at_call 41; exact quiet_l (l02Ok_lit QR.out b o _ (HRU.out.drewN _))) | (go_at_call 42; exact quiet_l (l00In_lit' QP.out _))))
            go_wp2_with (first | (go_at_call 93; (with_reducible refine Calls.mono (l04Sum_any A1 n1 c1 d.pits _ ?_ q1 _ R1.out) ?_); (exact S1.out.drewN _); rintro e w_ ⟨rfl, rfl⟩) | (go_at_call 93; (with_reducible refine Calls.mono (l04Sum_any A2 2 c2 d.stores _ ?_ q2 _ R2.out) ?_); (exact S2.out.drewN _); rintro e w_ ⟨rfl, rfl⟩))
            all_goals
              go_ret
              exact ⟨by first | rfl | simp [*], _, rfl⟩
          case pos =>
            by_cases g6 : 0 ≤ u2
            case neg =>
              obtain rfl : q = false := by rw [hE]; simp [*]
              clear hE
              go_enter Try.func82, Try.ntmps82
              go_wp2_with fail
              first | (refine wp_region_quiet_lit (by kernel_rfl) (by kernel_rfl) ?_; refine WQ.of ?_; (repeat (refine WQ.step (fun K hK => ?_); go_simp; first | (refine hK _ ?_; clear hK K) | (apply Exists.intro; refine ⟨fun _ => ?_, hK _ ?_⟩; ((first | (go_at_call 41; exact quiet_l (l02Ok_lit QR.out b o _ (HRU.out.drewN _))) | (go_at_call 42; exact quiet_l (l00In_lit' QP.out _)))); clear hK K))); refine WQ.nil ?_; intro _ hw'; obtain ⟨nq, hw''⟩ := hw'; subst hw'') | go_quiet ((first | (go_at_call 41; exact quiet_l (l02Ok_lit QR.out b o _ (HRU.out.drewN _))) | (go_at_call 42; exact quiet_l (l00In_lit' QP.out _))))
              go_wp2_with (first | (go_at_call 93; (with_reducible refine Calls.mono (l04Sum_any A1 n1 c1 d.pits _ ?_ q1 _ R1.out) ?_); (exact S1.out.drewN _); rintro e w_ ⟨rfl, rfl⟩) | (go_at_call 93; (with_reducible refine Calls.mono (l04Sum_any A2 2 c2 d.stores _ ?_ q2 _ R2.out) ?_); (exact S2.out.drewN _); rintro e w_ ⟨rfl, rfl⟩))
              all_goals
                go_ret
                exact ⟨by first | rfl | simp [*], _, rfl⟩
            case pos =>
              by_cases g7 : u1 + u2 ≤ 96
              case neg =>
                obtain rfl : q = false := by rw [hE]; simp [*]
                clear hE
                go_enter Try.func82, Try.ntmps82
                go_wp2_with fail
                first | (refine wp_region_quiet_lit (by kernel_rfl) (by kernel_rfl) ?_; refine WQ.of ?_; (repeat (refine WQ.step (fun K hK => ?_); go_simp; first | (refine hK _ ?_; clear hK K) | (apply Exists.intro; refine ⟨fun _ => ?_, hK _ ?_⟩; ((first | (go_at_call 41; exact quiet_l (l02Ok_lit QR.out b o _ (HRU.out.drewN _))) | (go_at_call 42; exact quiet_l (l00In_lit' QP.out _)))); clear hK K))); refine WQ.nil ?_; intro _ hw'; obtain ⟨nq, hw''⟩ := hw'; subst hw'') | go_quiet ((first | (go_at_call 41; exact quiet_l (l02Ok_lit QR.out b o _ (HRU.out.drewN _))) | (go_at_call 42; exact quiet_l (l00In_lit' QP.out _))))
                go_wp2_with (first | (go_at_call 93; (with_reducible refine Calls.mono (l04Sum_any A1 n1 c1 d.pits _ ?_ q1 _ R1.out) ?_); (exact S1.out.drewN _); rintro e w_ ⟨rfl, rfl⟩) | (go_at_call 93; (with_reducible refine Calls.mono (l04Sum_any A2 2 c2 d.stores _ ?_ q2 _ R2.out) ?_); (exact S2.out.drewN _); rintro e w_ ⟨rfl, rfl⟩))
                all_goals
                  go_ret
                  exact ⟨by first | rfl | simp [*], _, rfl⟩
              case pos =>
                obtain rfl : q = true := by rw [hE]; simp [*]
                clear hE
                go_enter Try.func82, Try.ntmps82
                go_wp2_with fail
                first | (refine wp_region_quiet_lit (by kernel_rfl) (by kernel_rfl) ?_; refine WQ.of ?_; (repeat (refine WQ.step (fun K hK => ?_); go_simp; first | (refine hK _ ?_; clear hK K) | (apply Exists.intro; refine ⟨fun _ => ?_, hK _ ?_⟩; ((first | (go_at_call 41; exact quiet_l (l02Ok_lit QR.out b o _ (HRU.out.drewN _))) | (go_at_call 42; exact quiet_l (l00In_lit' QP.out _)))); clear hK K))); refine WQ.nil ?_; intro _ hw'; obtain ⟨nq, hw''⟩ := hw'; subst hw'') | go_quiet ((first | (go_at_call 41; exact quiet_l (l02Ok_lit QR.out b o _ (HRU.out.drewN _))) | (go_at_call 42; exact quiet_l (l00In_lit' QP.out _))))
                go_wp2_with (first | (go_at_call 93; (with_reducible refine Calls.mono (l04Sum_any A1 n1 c1 d.pits _ ?_ q1 _ R1.out) ?_); (exact S1.out.drewN _); rintro e w_ ⟨rfl, rfl⟩) | (go_at_call 93; (with_reducible refine Calls.mono (l04Sum_any A2 2 c2 d.stores _ ?_ q2 _ R2.out) ?_); (exact S2.out.drewN _); rintro e w_ ⟨rfl, rfl⟩))
                all_goals
                  go_ret
                  exact ⟨by first | rfl | simp [*], _, rfl⟩
theorem l04Ok_quiet (r : Ru) (b o b2 o2 : Nat) (A1 A2 : Option Addr) (n1 c1 n2 c2 : Nat) (d : PositionD) (w : World) (hr : RuAt w b o r) (hp : PosAt w b2 o2 A1 n1 c1 A2 n2 c2 d) (hsz : szPosition d ≤ 1048576) : Calls Try.prog 82 #[.pointer (some ⟨b, o, none⟩), .pointer (some ⟨b2, o2, none⟩)] w fun e w' => e = .returned (.bool (okPos r d)) ∧ ∃ m, w' = w.drewN m :=
  l04Ok_two r b o b2 o2 A1 A2 n1 c1 n2 c2 d w hr hp ⟨by unfold szPosition at hsz; omega, by unfold szPosition at hsz; omega⟩
end Go.Proofs.Ytpcenpedbdenmaa
