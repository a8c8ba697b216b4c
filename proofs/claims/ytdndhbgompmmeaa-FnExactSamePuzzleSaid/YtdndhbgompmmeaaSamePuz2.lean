/- SamePuzzle of the reference, over data. No conditions. -/
import Derived.Test.YtdndhbgompmmeaaSamePuz
import Derived.Test.YtdndhbgompmmeaaSameQ
namespace Go.Proofs.Ytdndhbgompmmeaa
set_option linter.unusedSimpArgs false
set_option linter.unusedVariables false
open Go.RowKit
set_option maxRecDepth 100000 in
set_option maxHeartbeats 2000000 in
theorem l04Same_quiet (b b' o o' : Nat) (A A2 A' A2' : Option Addr) (n n2 n' n2' c c2 c' c2' : Nat) (d d' : PositionD) (w : World) (k0 : w.cell? ⟨b, o, none⟩ = some (.slice A n c)) (k1 : w.cell? ⟨b, o + 1, none⟩ = some (.slice A2 n2 c2)) (k2 : w.cell? ⟨b, o + 2, none⟩ = some (.int .i64 d.player)) (j0 : w.cell? ⟨b', o', none⟩ = some (.slice A' n' c')) (j1 : w.cell? ⟨b', o' + 1, none⟩ = some (.slice A2' n2' c2')) (j2 : w.cell? ⟨b', o' + 2, none⟩ = some (.int .i64 d'.player))
    (s : Sl w w.heap.size 1 A n (d.pits.map (Value.int .i64))) (s2 : Sl w w.heap.size 1 A2 n2 (d.stores.map (Value.int .i64))) (s' : Sl w w.heap.size 1 A' n' (d'.pits.map (Value.int .i64))) (s2' : Sl w w.heap.size 1 A2' n2' (d'.stores.map (Value.int .i64))) (l : n ≤ 9223372036854775807) (l2 : n2 ≤ 9223372036854775807) (l' : n' ≤ 9223372036854775807) (l2' : n2' ≤ 9223372036854775807) :
    Calls Try.prog 89 #[.pointer (some ⟨b, o, none⟩), .pointer (some ⟨b', o', none⟩)] w fun e w' => e = .returned (.bool (samePosition d d')) ∧ ∃ m, w' = w.drewN m := by
  obtain ⟨pits, stores, player⟩ := d
  obtain ⟨pits', stores', player'⟩ := d'
  simp only at *
  obtain ⟨r, hr⟩ : ∃ r, samePosition ⟨pits, stores, player⟩ ⟨pits', stores', player'⟩ = r := ⟨_, rfl⟩
  have HR := Lib.hid hr
  clear hr
  rw [HR.out]
  cases q : (pits == pits')
  all_goals have Q := Lib.hid q
  all_goals clear q
  case false =>
    go_enter Try.func89, Try.ntmps89
    go_wp2_with fail
    refine wp_region_quiet_lit (by kernel_rfl) (by kernel_rfl) ?_
    refine WQ.of ?_
    repeat (refine WQ.step (fun K hK => ?_); go_simp; first | (refine hK _ ?_; clear hK K) | (apply Exists.intro; refine ⟨fun _ => ?_, hK _ ?_⟩; ((first | (go_at_call 80; (with_reducible exact l00Same_q A A' n n' c c' pits pits' w s s' l l' _ Q.out _)) | (go_at_call 80; (with_reducible exact l00Same_q A2 A2' n2 n2' c2 c2' stores stores' w s2 s2' l2 l2' _ Q2.out _)))); clear hK K))
    refine WQ.nil ?_
    intro _ hw'
    obtain ⟨nq, hw''⟩ := hw'
    subst hw''
    go_wp2_with fail
    have h1 := HR.out
    simp only [samePosition] at h1
    go_ret
    have q1 := Q.out
    try have q2 := Q2.out
    exact ⟨by subst h1; simp [*], _, rfl⟩
  case true =>
    cases q2 : (stores == stores')
    all_goals have Q2 := Lib.hid q2
    all_goals clear q2
    case false =>
      go_enter Try.func89, Try.ntmps89
      go_wp2_with fail
      refine wp_region_quiet_lit (by kernel_rfl) (by kernel_rfl) ?_
      refine WQ.of ?_
      repeat (refine WQ.step (fun K hK => ?_); go_simp; first | (refine hK _ ?_; clear hK K) | (apply Exists.intro; refine ⟨fun _ => ?_, hK _ ?_⟩; ((first | (go_at_call 80; (with_reducible exact l00Same_q A A' n n' c c' pits pits' w s s' l l' _ Q.out _)) | (go_at_call 80; (with_reducible exact l00Same_q A2 A2' n2 n2' c2 c2' stores stores' w s2 s2' l2 l2' _ Q2.out _)))); clear hK K))
      refine WQ.nil ?_
      intro _ hw'
      obtain ⟨nq, hw''⟩ := hw'
      subst hw''
      go_wp2_with fail
      have h1 := HR.out
      simp only [samePosition] at h1
      go_ret
      have q1 := Q.out
      try have q2 := Q2.out
      exact ⟨by subst h1; simp [*], _, rfl⟩
    case true =>
      by_cases g : player = player'
      case' pos => subst g
      all_goals
        go_enter Try.func89, Try.ntmps89
        go_wp2_with fail
        refine wp_region_quiet_lit (by kernel_rfl) (by kernel_rfl) ?_
        refine WQ.of ?_
        repeat (refine WQ.step (fun K hK => ?_); go_simp; first | (refine hK _ ?_; clear hK K) | (apply Exists.intro; refine ⟨fun _ => ?_, hK _ ?_⟩; ((first | (go_at_call 80; (with_reducible exact l00Same_q A A' n n' c c' pits pits' w s s' l l' _ Q.out _)) | (go_at_call 80; (with_reducible exact l00Same_q A2 A2' n2 n2' c2 c2' stores stores' w s2 s2' l2 l2' _ Q2.out _)))); clear hK K))
        refine WQ.nil ?_
        intro _ hw'
        obtain ⟨nq, hw''⟩ := hw'
        subst hw''
        go_wp2_with fail
        have h1 := HR.out
        simp only [samePosition] at h1
        go_ret
        have q1 := Q.out
        try have q2 := Q2.out
        exact ⟨by subst h1; simp [*], _, rfl⟩
theorem l04Same_q (b b' o o' : Nat) (A A2 A' A2' : Option Addr) (n n2 n' n2' c c2 c' c2' : Nat) (d d' : PositionD) (w : World) (k0 : w.cell? ⟨b, o, none⟩ = some (.slice A n c)) (k1 : w.cell? ⟨b, o + 1, none⟩ = some (.slice A2 n2 c2)) (k2 : w.cell? ⟨b, o + 2, none⟩ = some (.int .i64 d.player)) (j0 : w.cell? ⟨b', o', none⟩ = some (.slice A' n' c')) (j1 : w.cell? ⟨b', o' + 1, none⟩ = some (.slice A2' n2' c2')) (j2 : w.cell? ⟨b', o' + 2, none⟩ = some (.int .i64 d'.player))
    (s : Sl w w.heap.size 1 A n (d.pits.map (Value.int .i64))) (s2 : Sl w w.heap.size 1 A2 n2 (d.stores.map (Value.int .i64))) (s' : Sl w w.heap.size 1 A' n' (d'.pits.map (Value.int .i64))) (s2' : Sl w w.heap.size 1 A2' n2' (d'.stores.map (Value.int .i64))) (l : n ≤ 9223372036854775807) (l2 : n2 ≤ 9223372036854775807) (l' : n' ≤ 9223372036854775807) (l2' : n2' ≤ 9223372036854775807) (r : Bool) (hr : samePosition d d' = r) (j : Nat) :
    Calls Try.prog 89 #[.pointer (some ⟨b, o, none⟩), .pointer (some ⟨b', o', none⟩)] (w.drewN j) fun e w' => e = .returned (.bool r) ∧ ∃ m, w' = w.drewN m := by
  subst hr
  exact quiet_many (l04Same_quiet b b' o o' A A2 A' A2' n n2 n' n2' c c2 c' c2' d d' (w.drewN j) k0 k1 k2 j0 j1 j2 (s.drewN j) (s2.drewN j) (s'.drewN j) (s2'.drewN j) l l2 l' l2')

set_option maxRecDepth 100000 in
set_option maxHeartbeats 8000000 in
theorem l21Same_any (b b' : Nat) (cs cs' : List Value) (d d' : PuzzleD) (w : World) (h : XPuzzle w cs d) (h' : XPuzzle w cs' d') (kb : Blk w b 77 cs.toArray) (kb' : Blk w b' 77 cs'.toArray) : Calls Try.prog 71 #[.pointer (some ⟨b, 0, none⟩), .pointer (some ⟨b', 0, none⟩)] w fun e w' => e = .returned (.bool (samePuzzle d d')) ∧ Below w.heap.size w w' := by
  obtain ⟨A_vs, n_vs, c_vs, A_rs, n_rs, c_rs, e, s_vs, l_vs, s_rs, l_rs⟩ := h
  obtain ⟨A_vs', n_vs', c_vs', A_rs', n_rs', c_rs', e2, s_vs', l_vs', s_rs', l_rs'⟩ := h'
  subst e e2
  obtain ⟨⟨p, s, st, sk, re, fe, ag, ca, sl⟩, ⟨pits, stores, player⟩, depth, move, value, margin⟩ := d
  obtain ⟨⟨p', s', st', sk', re', fe', ag', ca', sl'⟩, ⟨pits', stores', player'⟩, depth', move', value', margin'⟩ := d'
  simp only at *
  have k0 : w.cell? ⟨b, 0, none⟩ = some (.int .i64 p) := kb.cell 0
  have k1 : w.cell? ⟨b, 1, none⟩ = some (.int .i64 s) := kb.cell 1
  have k2 : w.cell? ⟨b, 2, none⟩ = some (.bool st) := kb.cell 2
  have k3 : w.cell? ⟨b, 3, none⟩ = some (.bool sk) := kb.cell 3
  have k4 : w.cell? ⟨b, 4, none⟩ = some (.bool re) := kb.cell 4
  have k5 : w.cell? ⟨b, 5, none⟩ = some (.bool fe) := kb.cell 5
  have k6 : w.cell? ⟨b, 6, none⟩ = some (.bool ag) := kb.cell 6
  have k7 : w.cell? ⟨b, 7, none⟩ = some (.int .i64 ca) := kb.cell 7
  have k8 : w.cell? ⟨b, 8, none⟩ = some (.int .i64 sl) := kb.cell 8
  have k9 : w.cell? ⟨b, 9, none⟩ = some (.slice A_vs n_vs c_vs) := kb.cell 9
  have k10 : w.cell? ⟨b, 10, none⟩ = some (.slice A_rs n_rs c_rs) := kb.cell 10
  have k11 : w.cell? ⟨b, 11, none⟩ = some (.int .i64 player) := kb.cell 11
  have k12 : w.cell? ⟨b, 12, none⟩ = some (.int .i64 depth) := kb.cell 12
  have k13 : w.cell? ⟨b, 13, none⟩ = some (.int .i64 move) := kb.cell 13
  have k14 : w.cell? ⟨b, 14, none⟩ = some (.int .i64 value) := kb.cell 14
  have k15 : w.cell? ⟨b, 15, none⟩ = some (.int .i64 margin) := kb.cell 15
  have j0 : w.cell? ⟨b', 0, none⟩ = some (.int .i64 p') := kb'.cell 0
  have j1 : w.cell? ⟨b', 1, none⟩ = some (.int .i64 s') := kb'.cell 1
  have j2 : w.cell? ⟨b', 2, none⟩ = some (.bool st') := kb'.cell 2
  have j3 : w.cell? ⟨b', 3, none⟩ = some (.bool sk') := kb'.cell 3
  have j4 : w.cell? ⟨b', 4, none⟩ = some (.bool re') := kb'.cell 4
  have j5 : w.cell? ⟨b', 5, none⟩ = some (.bool fe') := kb'.cell 5
  have j6 : w.cell? ⟨b', 6, none⟩ = some (.bool ag') := kb'.cell 6
  have j7 : w.cell? ⟨b', 7, none⟩ = some (.int .i64 ca') := kb'.cell 7
  have j8 : w.cell? ⟨b', 8, none⟩ = some (.int .i64 sl') := kb'.cell 8
  have j9 : w.cell? ⟨b', 9, none⟩ = some (.slice A_vs' n_vs' c_vs') := kb'.cell 9
  have j10 : w.cell? ⟨b', 10, none⟩ = some (.slice A_rs' n_rs' c_rs') := kb'.cell 10
  have j11 : w.cell? ⟨b', 11, none⟩ = some (.int .i64 player') := kb'.cell 11
  have j12 : w.cell? ⟨b', 12, none⟩ = some (.int .i64 depth') := kb'.cell 12
  have j13 : w.cell? ⟨b', 13, none⟩ = some (.int .i64 move') := kb'.cell 13
  have j14 : w.cell? ⟨b', 14, none⟩ = some (.int .i64 value') := kb'.cell 14
  have j15 : w.cell? ⟨b', 15, none⟩ = some (.int .i64 margin') := kb'.cell 15
  clear kb kb'
  cases q_r : Ru.same ⟨p, s, st, sk, re, fe, ag, ca, sl⟩ ⟨p', s', st', sk', re', fe', ag', ca', sl'⟩
  case false =>
    have hif : ∀ (α : Type) (x y : α), (if p = p' then if s = s' then if st = st' then if sk = sk' then if re = re' then if fe = fe' then if ag = ag' then if ca = ca' then if sl = sl' then x else y else y else y else y else y else y else y else y else y) = y := ru_no q_r
    go_enter Try.func71, Try.ntmps71
    go_wp2_with fail
    refine wp_region_quiet_lit (by kernel_rfl) (by kernel_rfl) ?_
    refine WQ.of ?_
    repeat (refine WQ.step (fun K hK => ?_); go_simp; first | (refine hK _ ?_; clear hK K) | (apply Exists.intro; refine ⟨fun _ => ?_, hK _ ?_⟩; ((go_at_call 89; exact (l04Same_q b b' 9 9 A_vs A_rs A_vs' A_rs' n_vs n_rs n_vs' n_rs' c_vs c_rs c_vs' c_rs' ⟨pits, stores, player⟩ ⟨pits', stores', player'⟩ w k9 k10 k11 j9 j10 j11 s_vs s_rs s_vs' s_rs' l_vs l_rs l_vs' l_rs' _ Q_pos.out _))); clear hK K))
    refine WQ.nil ?_
    intro _ hw'
    obtain ⟨nq, hw''⟩ := hw'
    subst hw''
    go_wp2_with fail
    go_ret
    exact ⟨by rw [samePuzzle, q_r]; rfl, by (repeat' (first | (with_reducible exact Below.refl _ _) | (with_reducible assumption) | (with_reducible refine Below.alloc ?_ ?_ _) | (with_reducible refine Below.drew ?_) | (with_reducible refine belowDrewN ?_ _) | (with_reducible refine Below.setCell ?_ ?_ _) | (with_reducible refine Below.via (by with_reducible assumption) ?_ ?_) | (with_reducible refine Below.viaD (by with_reducible assumption) ?_ ?_) | (with_reducible exact Below.size (by with_reducible assumption)) | go_size | (with_reducible refine Nat.le_trans ?_ (Below.size (by with_reducible assumption))) | (with_reducible refine Nat.le_trans ?_ (sizeAlloc _ _)) | (with_reducible refine Nat.le_trans ?_ (sizeSet _ _ _)) | (with_reducible refine Nat.le_trans ?_ (sizeDrew _))))⟩
  case true =>
    injection ru_eq q_r with f1 f2 f3 f4 f5 f6 f7 f8 f9
    subst f1 f2 f3 f4 f5 f6 f7 f8 f9
    clear q_r
    cases q_pos : samePosition ⟨pits, stores, player⟩ ⟨pits', stores', player'⟩
    all_goals have Q_pos := Lib.hid q_pos
    all_goals clear q_pos
    case false =>
      go_enter Try.func71, Try.ntmps71
      go_wp2_with fail
      refine wp_region_quiet_lit (by kernel_rfl) (by kernel_rfl) ?_
      refine WQ.of ?_
      repeat (refine WQ.step (fun K hK => ?_); go_simp; first | (refine hK _ ?_; clear hK K) | (apply Exists.intro; refine ⟨fun _ => ?_, hK _ ?_⟩; ((go_at_call 89; exact (l04Same_q b b' 9 9 A_vs A_rs A_vs' A_rs' n_vs n_rs n_vs' n_rs' c_vs c_rs c_vs' c_rs' ⟨pits, stores, player⟩ ⟨pits', stores', player'⟩ w k9 k10 k11 j9 j10 j11 s_vs s_rs s_vs' s_rs' l_vs l_rs l_vs' l_rs' _ Q_pos.out _))); clear hK K))
      refine WQ.nil ?_
      intro _ hw'
      obtain ⟨nq, hw''⟩ := hw'
      subst hw''
      go_wp2_with fail
      go_ret
      exact ⟨by simp [samePuzzle, Ru.same, Q_pos.out], by (repeat' (first | (with_reducible exact Below.refl _ _) | (with_reducible assumption) | (with_reducible refine Below.alloc ?_ ?_ _) | (with_reducible refine Below.drew ?_) | (with_reducible refine belowDrewN ?_ _) | (with_reducible refine Below.setCell ?_ ?_ _) | (with_reducible refine Below.via (by with_reducible assumption) ?_ ?_) | (with_reducible refine Below.viaD (by with_reducible assumption) ?_ ?_) | (with_reducible exact Below.size (by with_reducible assumption)) | go_size | (with_reducible refine Nat.le_trans ?_ (Below.size (by with_reducible assumption))) | (with_reducible refine Nat.le_trans ?_ (sizeAlloc _ _)) | (with_reducible refine Nat.le_trans ?_ (sizeSet _ _ _)) | (with_reducible refine Nat.le_trans ?_ (sizeDrew _))))⟩
    case true =>
      by_cases g_depth : depth = depth'
      case neg =>
        go_enter Try.func71, Try.ntmps71
        go_wp2_with fail
        refine wp_region_quiet_lit (by kernel_rfl) (by kernel_rfl) ?_
        refine WQ.of ?_
        repeat (refine WQ.step (fun K hK => ?_); go_simp; first | (refine hK _ ?_; clear hK K) | (apply Exists.intro; refine ⟨fun _ => ?_, hK _ ?_⟩; ((go_at_call 89; exact (l04Same_q b b' 9 9 A_vs A_rs A_vs' A_rs' n_vs n_rs n_vs' n_rs' c_vs c_rs c_vs' c_rs' ⟨pits, stores, player⟩ ⟨pits', stores', player'⟩ w k9 k10 k11 j9 j10 j11 s_vs s_rs s_vs' s_rs' l_vs l_rs l_vs' l_rs' _ Q_pos.out _))); clear hK K))
        refine WQ.nil ?_
        intro _ hw'
        obtain ⟨nq, hw''⟩ := hw'
        subst hw''
        go_wp2_with fail
        go_ret
        exact ⟨by simp [samePuzzle, Ru.same, g_depth], by (repeat' (first | (with_reducible exact Below.refl _ _) | (with_reducible assumption) | (with_reducible refine Below.alloc ?_ ?_ _) | (with_reducible refine Below.drew ?_) | (with_reducible refine belowDrewN ?_ _) | (with_reducible refine Below.setCell ?_ ?_ _) | (with_reducible refine Below.via (by with_reducible assumption) ?_ ?_) | (with_reducible refine Below.viaD (by with_reducible assumption) ?_ ?_) | (with_reducible exact Below.size (by with_reducible assumption)) | go_size | (with_reducible refine Nat.le_trans ?_ (Below.size (by with_reducible assumption))) | (with_reducible refine Nat.le_trans ?_ (sizeAlloc _ _)) | (with_reducible refine Nat.le_trans ?_ (sizeSet _ _ _)) | (with_reducible refine Nat.le_trans ?_ (sizeDrew _))))⟩
      case pos =>
        subst g_depth
        by_cases g_move : move = move'
        case neg =>
          go_enter Try.func71, Try.ntmps71
          go_wp2_with fail
          refine wp_region_quiet_lit (by kernel_rfl) (by kernel_rfl) ?_
          refine WQ.of ?_
          repeat (refine WQ.step (fun K hK => ?_); go_simp; first | (refine hK _ ?_; clear hK K) | (apply Exists.intro; refine ⟨fun _ => ?_, hK _ ?_⟩; ((go_at_call 89; exact (l04Same_q b b' 9 9 A_vs A_rs A_vs' A_rs' n_vs n_rs n_vs' n_rs' c_vs c_rs c_vs' c_rs' ⟨pits, stores, player⟩ ⟨pits', stores', player'⟩ w k9 k10 k11 j9 j10 j11 s_vs s_rs s_vs' s_rs' l_vs l_rs l_vs' l_rs' _ Q_pos.out _))); clear hK K))
          refine WQ.nil ?_
          intro _ hw'
          obtain ⟨nq, hw''⟩ := hw'
          subst hw''
          go_wp2_with fail
          go_ret
          exact ⟨by simp [samePuzzle, Ru.same, g_move], by (repeat' (first | (with_reducible exact Below.refl _ _) | (with_reducible assumption) | (with_reducible refine Below.alloc ?_ ?_ _) | (with_reducible refine Below.drew ?_) | (with_reducible refine belowDrewN ?_ _) | (with_reducible refine Below.setCell ?_ ?_ _) | (with_reducible refine Below.via (by with_reducible assumption) ?_ ?_) | (with_reducible refine Below.viaD (by with_reducible assumption) ?_ ?_) | (with_reducible exact Below.size (by with_reducible assumption)) | go_size | (with_reducible refine Nat.le_trans ?_ (Below.size (by with_reducible assumption))) | (with_reducible refine Nat.le_trans ?_ (sizeAlloc _ _)) | (with_reducible refine Nat.le_trans ?_ (sizeSet _ _ _)) | (with_reducible refine Nat.le_trans ?_ (sizeDrew _))))⟩
        case pos =>
          subst g_move
          by_cases g_value : value = value'
          case neg =>
            go_enter Try.func71, Try.ntmps71
            go_wp2_with fail
            refine wp_region_quiet_lit (by kernel_rfl) (by kernel_rfl) ?_
            refine WQ.of ?_
            repeat (refine WQ.step (fun K hK => ?_); go_simp; first | (refine hK _ ?_; clear hK K) | (apply Exists.intro; refine ⟨fun _ => ?_, hK _ ?_⟩; ((go_at_call 89; exact (l04Same_q b b' 9 9 A_vs A_rs A_vs' A_rs' n_vs n_rs n_vs' n_rs' c_vs c_rs c_vs' c_rs' ⟨pits, stores, player⟩ ⟨pits', stores', player'⟩ w k9 k10 k11 j9 j10 j11 s_vs s_rs s_vs' s_rs' l_vs l_rs l_vs' l_rs' _ Q_pos.out _))); clear hK K))
            refine WQ.nil ?_
            intro _ hw'
            obtain ⟨nq, hw''⟩ := hw'
            subst hw''
            go_wp2_with fail
            go_ret
            exact ⟨by simp [samePuzzle, Ru.same, g_value], by (repeat' (first | (with_reducible exact Below.refl _ _) | (with_reducible assumption) | (with_reducible refine Below.alloc ?_ ?_ _) | (with_reducible refine Below.drew ?_) | (with_reducible refine belowDrewN ?_ _) | (with_reducible refine Below.setCell ?_ ?_ _) | (with_reducible refine Below.via (by with_reducible assumption) ?_ ?_) | (with_reducible refine Below.viaD (by with_reducible assumption) ?_ ?_) | (with_reducible exact Below.size (by with_reducible assumption)) | go_size | (with_reducible refine Nat.le_trans ?_ (Below.size (by with_reducible assumption))) | (with_reducible refine Nat.le_trans ?_ (sizeAlloc _ _)) | (with_reducible refine Nat.le_trans ?_ (sizeSet _ _ _)) | (with_reducible refine Nat.le_trans ?_ (sizeDrew _))))⟩
          case pos =>
            subst g_value
            by_cases g_margin : margin = margin'
            case neg =>
              go_enter Try.func71, Try.ntmps71
              go_wp2_with fail
              refine wp_region_quiet_lit (by kernel_rfl) (by kernel_rfl) ?_
              refine WQ.of ?_
              repeat (refine WQ.step (fun K hK => ?_); go_simp; first | (refine hK _ ?_; clear hK K) | (apply Exists.intro; refine ⟨fun _ => ?_, hK _ ?_⟩; ((go_at_call 89; exact (l04Same_q b b' 9 9 A_vs A_rs A_vs' A_rs' n_vs n_rs n_vs' n_rs' c_vs c_rs c_vs' c_rs' ⟨pits, stores, player⟩ ⟨pits', stores', player'⟩ w k9 k10 k11 j9 j10 j11 s_vs s_rs s_vs' s_rs' l_vs l_rs l_vs' l_rs' _ Q_pos.out _))); clear hK K))
              refine WQ.nil ?_
              intro _ hw'
              obtain ⟨nq, hw''⟩ := hw'
              subst hw''
              go_wp2_with fail
              go_ret
              exact ⟨by simp [samePuzzle, Ru.same, g_margin], by (repeat' (first | (with_reducible exact Below.refl _ _) | (with_reducible assumption) | (with_reducible refine Below.alloc ?_ ?_ _) | (with_reducible refine Below.drew ?_) | (with_reducible refine belowDrewN ?_ _) | (with_reducible refine Below.setCell ?_ ?_ _) | (with_reducible refine Below.via (by with_reducible assumption) ?_ ?_) | (with_reducible refine Below.viaD (by with_reducible assumption) ?_ ?_) | (with_reducible exact Below.size (by with_reducible assumption)) | go_size | (with_reducible refine Nat.le_trans ?_ (Below.size (by with_reducible assumption))) | (with_reducible refine Nat.le_trans ?_ (sizeAlloc _ _)) | (with_reducible refine Nat.le_trans ?_ (sizeSet _ _ _)) | (with_reducible refine Nat.le_trans ?_ (sizeDrew _))))⟩
            case pos =>
              subst g_margin
              go_enter Try.func71, Try.ntmps71
              go_wp2_with fail
              refine wp_region_quiet_lit (by kernel_rfl) (by kernel_rfl) ?_
              refine WQ.of ?_
              repeat (refine WQ.step (fun K hK => ?_); go_simp; first | (refine hK _ ?_; clear hK K) | (apply Exists.intro; refine ⟨fun _ => ?_, hK _ ?_⟩; ((go_at_call 89; exact (l04Same_q b b' 9 9 A_vs A_rs A_vs' A_rs' n_vs n_rs n_vs' n_rs' c_vs c_rs c_vs' c_rs' ⟨pits, stores, player⟩ ⟨pits', stores', player'⟩ w k9 k10 k11 j9 j10 j11 s_vs s_rs s_vs' s_rs' l_vs l_rs l_vs' l_rs' _ Q_pos.out _))); clear hK K))
              refine WQ.nil ?_
              intro _ hw'
              obtain ⟨nq, hw''⟩ := hw'
              subst hw''
              go_wp2_with fail
              go_ret
              exact ⟨by simp [samePuzzle, Ru.same, Q_pos.out], by (repeat' (first | (with_reducible exact Below.refl _ _) | (with_reducible assumption) | (with_reducible refine Below.alloc ?_ ?_ _) | (with_reducible refine Below.drew ?_) | (with_reducible refine belowDrewN ?_ _) | (with_reducible refine Below.setCell ?_ ?_ _) | (with_reducible refine Below.via (by with_reducible assumption) ?_ ?_) | (with_reducible refine Below.viaD (by with_reducible assumption) ?_ ?_) | (with_reducible exact Below.size (by with_reducible assumption)) | go_size | (with_reducible refine Nat.le_trans ?_ (Below.size (by with_reducible assumption))) | (with_reducible refine Nat.le_trans ?_ (sizeAlloc _ _)) | (with_reducible refine Nat.le_trans ?_ (sizeSet _ _ _)) | (with_reducible refine Nat.le_trans ?_ (sizeDrew _))))⟩
theorem list16 {α : Type} {l : List α} (h : l.length = 16) : ∃ a0 a1 a2 a3 a4 a5 a6 a7 a8 a9 a10 a11 a12 a13 a14 a15, l = [a0, a1, a2, a3, a4, a5, a6, a7, a8, a9, a10, a11, a12, a13, a14, a15] := by
  match l, h with
  | [a0, a1, a2, a3, a4, a5, a6, a7, a8, a9, a10, a11, a12, a13, a14, a15], _ => exact ⟨_, _, _, _, _, _, _, _, _, _, _, _, _, _, _, _, rfl⟩
set_option maxRecDepth 100000 in
theorem sSamePuzzle_any (cs cs' : List Value) (d d' : PuzzleD) (w : World) (h : XPuzzle w cs d) (h' : XPuzzle w cs' d') : Calls Try.prog 46 #[.agg cs.toArray, .agg cs'.toArray] w fun e w' => e = .returned (.bool (samePuzzle d d')) ∧ Below w.heap.size w w' := by
  obtain ⟨a0, a1, a2, a3, a4, a5, a6, a7, a8, a9, a10, a11, a12, a13, a14, a15, rfl⟩ := list16 h.len
  obtain ⟨b0, b1, b2, b3, b4, b5, b6, b7, b8, b9, b10, b11, b12, b13, b14, b15, rfl⟩ := list16 h'.len
  go_enter Try.func46, Try.ntmps46
  go_wp2_with fail
  refine (l21Same_any _ _ [a0, a1, a2, a3, a4, a5, a6, a7, a8, a9, a10, a11, a12, a13, a14, a15] [b0, b1, b2, b3, b4, b5, b6, b7, b8, b9, b10, b11, b12, b13, b14, b15] d d' _ ((h.boxed _).boxed _) ((h'.boxed _).boxed _) ((Blk.new _ _ _).later (boxed_ _ _)) (Blk.new' (by simp))).mono ?_
  rintro e w1 ⟨rfl, hb1⟩
  go_wp2_with fail
  go_ret
  exact ⟨rfl, by (repeat' (first | (with_reducible exact Below.refl _ _) | (with_reducible assumption) | (with_reducible refine Below.alloc ?_ ?_ _) | (with_reducible refine Below.drew ?_) | (with_reducible refine belowDrewN ?_ _) | (with_reducible refine Below.setCell ?_ ?_ _) | (with_reducible refine Below.via (by with_reducible assumption) ?_ ?_) | (with_reducible refine Below.viaD (by with_reducible assumption) ?_ ?_) | (with_reducible exact Below.size (by with_reducible assumption)) | go_size | (with_reducible refine Nat.le_trans ?_ (Below.size (by with_reducible assumption))) | (with_reducible refine Nat.le_trans ?_ (sizeAlloc _ _)) | (with_reducible refine Nat.le_trans ?_ (sizeSet _ _ _)) | (with_reducible refine Nat.le_trans ?_ (sizeDrew _))))⟩
end Go.Proofs.Ytdndhbgompmmeaa
