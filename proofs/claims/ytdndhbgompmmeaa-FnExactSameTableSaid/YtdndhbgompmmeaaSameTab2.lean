/- SameTable of the reference, over data. No conditions. -/
import Derived.Test.YtdndhbgompmmeaaSameTab
import Derived.Test.YtdndhbgompmmeaaSameQ
namespace Go.Proofs.Ytdndhbgompmmeaa
set_option linter.unusedSimpArgs false
set_option linter.unusedVariables false
open Go.RowKit

set_option maxRecDepth 100000 in
set_option maxHeartbeats 8000000 in
theorem l17Same_any (b b' : Nat) (cs cs' : List Value) (d d' : TableD) (w : World) (h : XTable w cs d) (h' : XTable w cs' d') (kb : Blk w b 46 cs.toArray) (kb' : Blk w b' 46 cs'.toArray) : Calls Try.prog 59 #[.pointer (some ⟨b, 0, none⟩), .pointer (some ⟨b', 0, none⟩)] w fun e w' => e = .returned (.bool (sameTable d d')) ∧ Below w.heap.size w w' := by
  obtain ⟨A_vs, n_vs, c_vs, A_rs, n_rs, c_rs, e, s_vs, l_vs, s_rs, l_rs⟩ := h
  obtain ⟨A_vs', n_vs', c_vs', A_rs', n_rs', c_rs', e2, s_vs', l_vs', s_rs', l_rs'⟩ := h'
  subst e e2
  obtain ⟨⟨p, s, st, sk, re, fe, ag, ca, sl⟩, most, vs, rs⟩ := d
  obtain ⟨⟨p', s', st', sk', re', fe', ag', ca', sl'⟩, most', vs', rs'⟩ := d'
  simp only at *
  have k0 : w.cell? ⟨b, 0, none⟩ = some (.int .i64 p) := kb.cell 0
  have k1 : w.cell? ⟨b, 1, none⟩ = some (.int .i64 s) := kb.cell 1
  have k2 : w.cell? ⟨b, 2, none⟩ = some (.bool st) := kb.cell 2
  have k3 : w.cell? ⟨b, 3, none⟩ = some (.bool sk) := kb.cell 3
  have k4 : w.cell? ⟨b, 4, none⟩ = some (.bool re) := kb.cell 4
  have k5 : w.cell? ⟨b, 5, none⟩ = some (.bool fe) := kb.cell 5
  have k6 : w.cell? ⟨b, 6, none⟩ = some (.bool ag) := kb.cell 6
  have k7 : w.cell? ⟨b, 7, none⟩ = some (.int .i64 ca) := kb.cell 7
  have k8 : w.cell? ⟨b, 8, none⟩ = some (.int .i64 sl) := kb.cell 8
  have k9 : w.cell? ⟨b, 9, none⟩ = some (.int .i64 most) := kb.cell 9
  have k10 : w.cell? ⟨b, 10, none⟩ = some (.slice A_vs n_vs c_vs) := kb.cell 10
  have k11 : w.cell? ⟨b, 11, none⟩ = some (.slice A_rs n_rs c_rs) := kb.cell 11
  have j0 : w.cell? ⟨b', 0, none⟩ = some (.int .i64 p') := kb'.cell 0
  have j1 : w.cell? ⟨b', 1, none⟩ = some (.int .i64 s') := kb'.cell 1
  have j2 : w.cell? ⟨b', 2, none⟩ = some (.bool st') := kb'.cell 2
  have j3 : w.cell? ⟨b', 3, none⟩ = some (.bool sk') := kb'.cell 3
  have j4 : w.cell? ⟨b', 4, none⟩ = some (.bool re') := kb'.cell 4
  have j5 : w.cell? ⟨b', 5, none⟩ = some (.bool fe') := kb'.cell 5
  have j6 : w.cell? ⟨b', 6, none⟩ = some (.bool ag') := kb'.cell 6
  have j7 : w.cell? ⟨b', 7, none⟩ = some (.int .i64 ca') := kb'.cell 7
  have j8 : w.cell? ⟨b', 8, none⟩ = some (.int .i64 sl') := kb'.cell 8
  have j9 : w.cell? ⟨b', 9, none⟩ = some (.int .i64 most') := kb'.cell 9
  have j10 : w.cell? ⟨b', 10, none⟩ = some (.slice A_vs' n_vs' c_vs') := kb'.cell 10
  have j11 : w.cell? ⟨b', 11, none⟩ = some (.slice A_rs' n_rs' c_rs') := kb'.cell 11
  clear kb kb'
  cases q_r : Ru.same ⟨p, s, st, sk, re, fe, ag, ca, sl⟩ ⟨p', s', st', sk', re', fe', ag', ca', sl'⟩
  case false =>
    have hif : ∀ (α : Type) (x y : α), (if p = p' then if s = s' then if st = st' then if sk = sk' then if re = re' then if fe = fe' then if ag = ag' then if ca = ca' then if sl = sl' then x else y else y else y else y else y else y else y else y else y) = y := ru_no q_r
    go_enter Try.func59, Try.ntmps59
    go_wp2_with fail
    refine wp_region_quiet_lit (by kernel_rfl) (by kernel_rfl) ?_
    refine WQ.of ?_
    repeat (refine WQ.step (fun K hK => ?_); go_simp; first | (refine hK _ ?_; clear hK K) | (apply Exists.intro; refine ⟨fun _ => ?_, hK _ ?_⟩; ((first | (go_at_call 80; (with_reducible exact l00Same_q A_vs A_vs' n_vs n_vs' c_vs c_vs' vs vs' w s_vs s_vs' l_vs l_vs' _ Q_vs.out _)) | (go_at_call 80; (with_reducible exact l00Same_q A_rs A_rs' n_rs n_rs' c_rs c_rs' rs rs' w s_rs s_rs' l_rs l_rs' _ Q_rs.out _)))); clear hK K))
    refine WQ.nil ?_
    intro _ hw'
    obtain ⟨nq, hw''⟩ := hw'
    subst hw''
    go_wp2_with fail
    go_ret
    exact ⟨by rw [sameTable, q_r]; rfl, by (repeat' (first | (with_reducible exact Below.refl _ _) | (with_reducible assumption) | (with_reducible refine Below.alloc ?_ ?_ _) | (with_reducible refine Below.drew ?_) | (with_reducible refine belowDrewN ?_ _) | (with_reducible refine Below.setCell ?_ ?_ _) | (with_reducible refine Below.via (by with_reducible assumption) ?_ ?_) | (with_reducible exact Below.size (by with_reducible assumption)) | go_size | (with_reducible refine Nat.le_trans ?_ (Below.size (by with_reducible assumption))) | (with_reducible refine Nat.le_trans ?_ (sizeAlloc _ _)) | (with_reducible refine Nat.le_trans ?_ (sizeSet _ _ _)) | (with_reducible refine Nat.le_trans ?_ (sizeDrew _))))⟩
  case true =>
    injection ru_eq q_r with f1 f2 f3 f4 f5 f6 f7 f8 f9
    subst f1 f2 f3 f4 f5 f6 f7 f8 f9
    clear q_r
    by_cases g_most : most = most'
    case neg =>
      go_enter Try.func59, Try.ntmps59
      go_wp2_with fail
      refine wp_region_quiet_lit (by kernel_rfl) (by kernel_rfl) ?_
      refine WQ.of ?_
      repeat (refine WQ.step (fun K hK => ?_); go_simp; first | (refine hK _ ?_; clear hK K) | (apply Exists.intro; refine ⟨fun _ => ?_, hK _ ?_⟩; ((first | (go_at_call 80; (with_reducible exact l00Same_q A_vs A_vs' n_vs n_vs' c_vs c_vs' vs vs' w s_vs s_vs' l_vs l_vs' _ Q_vs.out _)) | (go_at_call 80; (with_reducible exact l00Same_q A_rs A_rs' n_rs n_rs' c_rs c_rs' rs rs' w s_rs s_rs' l_rs l_rs' _ Q_rs.out _)))); clear hK K))
      refine WQ.nil ?_
      intro _ hw'
      obtain ⟨nq, hw''⟩ := hw'
      subst hw''
      go_wp2_with fail
      go_ret
      exact ⟨by simp [sameTable, Ru.same, g_most], by (repeat' (first | (with_reducible exact Below.refl _ _) | (with_reducible assumption) | (with_reducible refine Below.alloc ?_ ?_ _) | (with_reducible refine Below.drew ?_) | (with_reducible refine belowDrewN ?_ _) | (with_reducible refine Below.setCell ?_ ?_ _) | (with_reducible refine Below.via (by with_reducible assumption) ?_ ?_) | (with_reducible exact Below.size (by with_reducible assumption)) | go_size | (with_reducible refine Nat.le_trans ?_ (Below.size (by with_reducible assumption))) | (with_reducible refine Nat.le_trans ?_ (sizeAlloc _ _)) | (with_reducible refine Nat.le_trans ?_ (sizeSet _ _ _)) | (with_reducible refine Nat.le_trans ?_ (sizeDrew _))))⟩
    case pos =>
      subst g_most
      cases q_vs : (vs == vs')
      all_goals have Q_vs := Lib.hid q_vs
      all_goals clear q_vs
      case false =>
        go_enter Try.func59, Try.ntmps59
        go_wp2_with fail
        refine wp_region_quiet_lit (by kernel_rfl) (by kernel_rfl) ?_
        refine WQ.of ?_
        repeat (refine WQ.step (fun K hK => ?_); go_simp; first | (refine hK _ ?_; clear hK K) | (apply Exists.intro; refine ⟨fun _ => ?_, hK _ ?_⟩; ((first | (go_at_call 80; (with_reducible exact l00Same_q A_vs A_vs' n_vs n_vs' c_vs c_vs' vs vs' w s_vs s_vs' l_vs l_vs' _ Q_vs.out _)) | (go_at_call 80; (with_reducible exact l00Same_q A_rs A_rs' n_rs n_rs' c_rs c_rs' rs rs' w s_rs s_rs' l_rs l_rs' _ Q_rs.out _)))); clear hK K))
        refine WQ.nil ?_
        intro _ hw'
        obtain ⟨nq, hw''⟩ := hw'
        subst hw''
        go_wp2_with fail
        go_ret
        exact ⟨by simp [sameTable, Ru.same, Q_vs.out], by (repeat' (first | (with_reducible exact Below.refl _ _) | (with_reducible assumption) | (with_reducible refine Below.alloc ?_ ?_ _) | (with_reducible refine Below.drew ?_) | (with_reducible refine belowDrewN ?_ _) | (with_reducible refine Below.setCell ?_ ?_ _) | (with_reducible refine Below.via (by with_reducible assumption) ?_ ?_) | (with_reducible exact Below.size (by with_reducible assumption)) | go_size | (with_reducible refine Nat.le_trans ?_ (Below.size (by with_reducible assumption))) | (with_reducible refine Nat.le_trans ?_ (sizeAlloc _ _)) | (with_reducible refine Nat.le_trans ?_ (sizeSet _ _ _)) | (with_reducible refine Nat.le_trans ?_ (sizeDrew _))))⟩
      case true =>
        cases q_rs : (rs == rs')
        all_goals have Q_rs := Lib.hid q_rs
        all_goals clear q_rs
        case false =>
          go_enter Try.func59, Try.ntmps59
          go_wp2_with fail
          refine wp_region_quiet_lit (by kernel_rfl) (by kernel_rfl) ?_
          refine WQ.of ?_
          repeat (refine WQ.step (fun K hK => ?_); go_simp; first | (refine hK _ ?_; clear hK K) | (apply Exists.intro; refine ⟨fun _ => ?_, hK _ ?_⟩; ((first | (go_at_call 80; (with_reducible exact l00Same_q A_vs A_vs' n_vs n_vs' c_vs c_vs' vs vs' w s_vs s_vs' l_vs l_vs' _ Q_vs.out _)) | (go_at_call 80; (with_reducible exact l00Same_q A_rs A_rs' n_rs n_rs' c_rs c_rs' rs rs' w s_rs s_rs' l_rs l_rs' _ Q_rs.out _)))); clear hK K))
          refine WQ.nil ?_
          intro _ hw'
          obtain ⟨nq, hw''⟩ := hw'
          subst hw''
          go_wp2_with fail
          go_ret
          exact ⟨by simp [sameTable, Ru.same, Q_rs.out], by (repeat' (first | (with_reducible exact Below.refl _ _) | (with_reducible assumption) | (with_reducible refine Below.alloc ?_ ?_ _) | (with_reducible refine Below.drew ?_) | (with_reducible refine belowDrewN ?_ _) | (with_reducible refine Below.setCell ?_ ?_ _) | (with_reducible refine Below.via (by with_reducible assumption) ?_ ?_) | (with_reducible exact Below.size (by with_reducible assumption)) | go_size | (with_reducible refine Nat.le_trans ?_ (Below.size (by with_reducible assumption))) | (with_reducible refine Nat.le_trans ?_ (sizeAlloc _ _)) | (with_reducible refine Nat.le_trans ?_ (sizeSet _ _ _)) | (with_reducible refine Nat.le_trans ?_ (sizeDrew _))))⟩
        case true =>
          go_enter Try.func59, Try.ntmps59
          go_wp2_with fail
          refine wp_region_quiet_lit (by kernel_rfl) (by kernel_rfl) ?_
          refine WQ.of ?_
          repeat (refine WQ.step (fun K hK => ?_); go_simp; first | (refine hK _ ?_; clear hK K) | (apply Exists.intro; refine ⟨fun _ => ?_, hK _ ?_⟩; ((first | (go_at_call 80; (with_reducible exact l00Same_q A_vs A_vs' n_vs n_vs' c_vs c_vs' vs vs' w s_vs s_vs' l_vs l_vs' _ Q_vs.out _)) | (go_at_call 80; (with_reducible exact l00Same_q A_rs A_rs' n_rs n_rs' c_rs c_rs' rs rs' w s_rs s_rs' l_rs l_rs' _ Q_rs.out _)))); clear hK K))
          refine WQ.nil ?_
          intro _ hw'
          obtain ⟨nq, hw''⟩ := hw'
          subst hw''
          go_wp2_with fail
          go_ret
          exact ⟨by simp [sameTable, Ru.same, Q_vs.out, Q_rs.out], by (repeat' (first | (with_reducible exact Below.refl _ _) | (with_reducible assumption) | (with_reducible refine Below.alloc ?_ ?_ _) | (with_reducible refine Below.drew ?_) | (with_reducible refine belowDrewN ?_ _) | (with_reducible refine Below.setCell ?_ ?_ _) | (with_reducible refine Below.via (by with_reducible assumption) ?_ ?_) | (with_reducible exact Below.size (by with_reducible assumption)) | go_size | (with_reducible refine Nat.le_trans ?_ (Below.size (by with_reducible assumption))) | (with_reducible refine Nat.le_trans ?_ (sizeAlloc _ _)) | (with_reducible refine Nat.le_trans ?_ (sizeSet _ _ _)) | (with_reducible refine Nat.le_trans ?_ (sizeDrew _))))⟩
set_option maxRecDepth 100000 in
theorem sSameTable_any (cs cs' : List Value) (d d' : TableD) (w : World) (h : XTable w cs d) (h' : XTable w cs' d') : Calls Try.prog 27 #[.agg cs.toArray, .agg cs'.toArray] w fun e w' => e = .returned (.bool (sameTable d d')) ∧ Below w.heap.size w w' := by
  obtain ⟨a0, a1, a2, a3, a4, a5, a6, a7, a8, a9, a10, a11, rfl⟩ := list12 h.len
  obtain ⟨b0, b1, b2, b3, b4, b5, b6, b7, b8, b9, b10, b11, rfl⟩ := list12 h'.len
  go_enter Try.func27, Try.ntmps27
  go_wp2_with fail
  refine (l17Same_any _ _ [a0, a1, a2, a3, a4, a5, a6, a7, a8, a9, a10, a11] [b0, b1, b2, b3, b4, b5, b6, b7, b8, b9, b10, b11] d d' _ ((h.boxed _).boxed _) ((h'.boxed _).boxed _) ((Blk.new _ _ _).later (boxed_ _ _)) (Blk.new' (by simp))).mono ?_
  rintro e w1 ⟨rfl, hb1⟩
  go_wp2_with fail
  go_ret
  exact ⟨rfl, by (repeat' (first | (with_reducible exact Below.refl _ _) | (with_reducible assumption) | (with_reducible refine Below.alloc ?_ ?_ _) | (with_reducible refine Below.drew ?_) | (with_reducible refine belowDrewN ?_ _) | (with_reducible refine Below.setCell ?_ ?_ _) | (with_reducible refine Below.via (by with_reducible assumption) ?_ ?_) | (with_reducible exact Below.size (by with_reducible assumption)) | go_size | (with_reducible refine Nat.le_trans ?_ (Below.size (by with_reducible assumption))) | (with_reducible refine Nat.le_trans ?_ (sizeAlloc _ _)) | (with_reducible refine Nat.le_trans ?_ (sizeSet _ _ _)) | (with_reducible refine Nat.le_trans ?_ (sizeDrew _))))⟩
end Go.Proofs.Ytdndhbgompmmeaa
