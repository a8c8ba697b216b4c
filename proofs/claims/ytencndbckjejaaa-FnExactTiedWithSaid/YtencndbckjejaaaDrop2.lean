/- DropPlayer: the reference's function, and the law. No conditions beyond lengths. -/
import Derived.Test.YtencndbckjejaaaDrop
namespace Go.Proofs.Ytencndbckjejaaa
set_option linter.unusedSimpArgs false
set_option linter.unusedVariables false
open Go.RowKit

set_option maxRecDepth 100000 in
set_option maxHeartbeats 2000000 in
theorem sDropPlayer_any (n p : Int) (A : Option Addr) (c cp : Nat) (vs : List Value) (w : World) (hs : Sl w w.heap.size 4 A c vs) (ht : TypMatch vs c) (hc : c ≤ 9223372036854775807) (ms : List (Int × Int × Int × Bool)) (code : Int) (hr : drR n p vs c = (ms, code)) :
    Calls Try.prog 17 #[.int .i64 n, .slice A c cp, .int .i64 p] w (DrPost Try.prog ms code w) := by
  have HL := Lib.hid hs.len
  have HT := Lib.hid ht
  unfold drR at hr
  cases hv : validMs n vs
  case false =>
    rw [hv] at hr
    obtain ⟨rfl, rfl⟩ := pairL hr
    clear hr
    go_enter Try.func17, Try.ntmps17
    go_wp2_with (go_at_call 37; refine (l26Ok_any n A c cp vs _ hs HT.out hc).mono ?_; rintro e w1 ⟨rfl, hb1⟩; obtain ⟨hc1, hf1, hl1, hz1⟩ := bfacts hb1; (try simp only [World.size_alloc, World.size_setCell, World.size_drew] at hz1))
    go_ret2
    exact ⟨none, w.heap.size, 0, rfl, Nat.le_refl _, OwnV.none _ _ _ _ _, by (repeat' (first | (with_reducible exact Below.refl _ _) | (with_reducible assumption) | (with_reducible refine Below.alloc ?_ ?_ _) | (with_reducible refine Below.drew ?_) | (with_reducible refine belowDrewN ?_ _) | (with_reducible refine Below.setCell ?_ ?_ _) | (with_reducible refine Below.via (by with_reducible assumption) ?_ ?_) | (with_reducible refine Below.viaD (by with_reducible assumption) ?_ ?_) | (with_reducible exact Below.size (by with_reducible assumption)) | go_size | (with_reducible refine Nat.le_trans ?_ (Below.size (by with_reducible assumption))) | (with_reducible refine Nat.le_trans ?_ (sizeAlloc _ _)) | (with_reducible refine Nat.le_trans ?_ (sizeSet _ _ _)) | (with_reducible refine Nat.le_trans ?_ (sizeDrew _))))⟩
  case true =>
    rw [hv, if_pos rfl] at hr
    obtain ⟨m, rfl, k1, k2, hc150, hz⟩ := validMs_of HL.out hv
    clear hz ht
    cases q1 : inB p 0 ((m : Int) - 1)
    case false =>
      rw [q1] at hr
      obtain ⟨rfl, rfl⟩ := pairL hr
      clear hr
      go_enter Try.func17, Try.ntmps17
      go_wp2_with (first | (go_at_call 37; refine (l26Ok_any m A c cp vs _ hs HT.out hc).mono ?_; rintro e w1 ⟨rfl, hb1⟩; obtain ⟨hc1, hf1, hl1, hz1⟩ := bfacts hb1; (try simp only [World.size_alloc, World.size_setCell, World.size_drew] at hz1)) | (go_at_call 42; refine (l00In_any _ _ _ _).mono ?_; rintro e w_ ⟨rfl, rfl⟩))
      go_ret2
      exact ⟨none, w.heap.size, 0, rfl, Nat.le_refl _, OwnV.none _ _ _ _ _, by (repeat' (first | (with_reducible exact Below.refl _ _) | (with_reducible assumption) | (with_reducible refine Below.alloc ?_ ?_ _) | (with_reducible refine Below.drew ?_) | (with_reducible refine belowDrewN ?_ _) | (with_reducible refine Below.setCell ?_ ?_ _) | (with_reducible refine Below.via (by with_reducible assumption) ?_ ?_) | (with_reducible refine Below.viaD (by with_reducible assumption) ?_ ?_) | (with_reducible exact Below.size (by with_reducible assumption)) | go_size | (with_reducible refine Nat.le_trans ?_ (Below.size (by with_reducible assumption))) | (with_reducible refine Nat.le_trans ?_ (sizeAlloc _ _)) | (with_reducible refine Nat.le_trans ?_ (sizeSet _ _ _)) | (with_reducible refine Nat.le_trans ?_ (sizeDrew _))))⟩
    case true =>
      rw [q1, if_pos rfl] at hr
      obtain ⟨hr1, rfl⟩ := pairL hr
      have HR := Lib.hid hr1
      clear hr hr1
      obtain ⟨i0, ti, tz0, tz1, tz2⟩ := info_parts info_Match'
      go_enter Try.func17, Try.ntmps17
      go_wp2_with (first | (go_at_call 37; refine (l26Ok_any m A c cp vs _ hs HT.out hc).mono ?_; rintro e w1 ⟨rfl, hb1⟩; obtain ⟨hc1, hf1, hl1, hz1⟩ := bfacts hb1; (try simp only [World.size_alloc, World.size_setCell, World.size_drew] at hz1)) | (go_at_call 42; refine (l00In_any _ _ _ _).mono ?_; rintro e w_ ⟨rfl, rfl⟩))
      go_loopw [8, 9] (fun v i wr => ∃ k : Nat, k ≤ c ∧ i = .int .i64 k ∧ wr.ownsRow w.heap.size 54 4 v (dropM vs p k).length (flatM (dropM vs p k)) ∧ Below w.heap.size w wr) (fun _ i _ => c - (intOf i).toNat)
      case atStart => exact ⟨0, Nat.zero_le _, rfl, World.ownsRow_made _ _ 0 hb1.size (Nat.zero_le _) rfl, by (repeat' (first | (with_reducible exact Below.refl _ _) | (with_reducible assumption) | (with_reducible refine Below.alloc ?_ ?_ _) | (with_reducible refine Below.drew ?_) | (with_reducible refine belowDrewN ?_ _) | (with_reducible refine Below.setCell ?_ ?_ _) | (with_reducible refine Below.via (by with_reducible assumption) ?_ ?_) | (with_reducible refine Below.viaD (by with_reducible assumption) ?_ ?_) | (with_reducible exact Below.size (by with_reducible assumption)) | go_size | (with_reducible refine Nat.le_trans ?_ (Below.size (by with_reducible assumption))) | (with_reducible refine Nat.le_trans ?_ (sizeAlloc _ _)) | (with_reducible refine Nat.le_trans ?_ (sizeSet _ _ _)) | (with_reducible refine Nat.le_trans ?_ (sizeDrew _))))⟩
      case round =>
        obtain ⟨k, hk, rfl, hown, hbl⟩ := hrel
        by_cases hlt : k < c
        · obtain ⟨blk, off, a0, a1, a2, a3, rfl, hb, hc0, hc1', hc2, hc3, HM⟩ := (hs.below hbl).matchAt HT.out hlt
          have hml := dropM_len vs p k
          have HX : Hid (dropM vs p (k + 1) = dropM vs p k ++ (if a0 != p && a1 != p then [(a0, a1, a2, a3)] else [])) := by unfold Hid; rw [dropM, HM.out.1, HM.out.2.1, HM.out.2.2.1, HM.out.2.2.2]
          revert hown hml HX
          generalize dropM vs p k = l
          intro hown hml HX
          have HO := Lib.hid hown
          have hbs := hbl.size
          clear hown
          cases p1 : (a0 == p) <;> cases p2 : (a1 == p)
          case false.false =>
            have p1' : (a0 != p) = true := by rw [bne, p1]; rfl
            have p2' : (a1 != p) = true := by rw [bne, p2]; rfl
            have HX2 : Hid (dropM vs p (k + 1) = l ++ [(a0, a1, a2, a3)]) := by unfold Hid; rw [HX.out, p1', p2']; rfl
            go_wp2_with (at_builtin; refine wpList_append_sl _ rfl _ _ 25 rfl w.heap.size 54 i0 _ 4 32 Try.underlying25 ti tz0 tz1 tz2 rfl (by decide) _ l.length (flatM l) rfl (HO.out.alloc _) (wr.heap.size + 1) _ 1 1 (cellsM (a0, a1, a2, a3)) rfl (Sl.built (by simp) (by simp) rfl) ?c1 ?c2 ?c3 ?c4 ?_)
            case c1 => intro u hu; simp [cellsM] at hu; rcases hu with rfl | rfl | rfl | rfl <;> rfl
            case c2 => unfold maxLen; omega
            case c3 => omega
            case c4 => simp; omega
            intro v' w1 hown1 hg1 _
            have hbn : Below w.heap.size w w1 := below_app (by (repeat' (first | (with_reducible exact Below.refl _ _) | (with_reducible assumption) | (with_reducible refine Below.alloc ?_ ?_ _) | (with_reducible refine Below.drew ?_) | (with_reducible refine belowDrewN ?_ _) | (with_reducible refine Below.setCell ?_ ?_ _) | (with_reducible refine Below.via (by with_reducible assumption) ?_ ?_) | (with_reducible refine Below.viaD (by with_reducible assumption) ?_ ?_) | (with_reducible exact Below.size (by with_reducible assumption)) | go_size | (with_reducible refine Nat.le_trans ?_ (Below.size (by with_reducible assumption))) | (with_reducible refine Nat.le_trans ?_ (sizeAlloc _ _)) | (with_reducible refine Nat.le_trans ?_ (sizeSet _ _ _)) | (with_reducible refine Nat.le_trans ?_ (sizeDrew _))))) (HO.out.alloc _) hg1 (Nat.le_refl _) (by simp; omega)
            have HO1 := Lib.hid hown1
            clear hown1 hg1
            go_wp2_with fail
            go_roundw
            case rel => exact ⟨k + 1, by omega, by go_num, by rw [HX2.out, flatM_snoc, List.length_append]; exact HO1.out, hbn⟩
            case measure => first | (simp [intOf]; done) | (simp [intOf]; omega)
          all_goals
            have HX2 : Hid (dropM vs p (k + 1) = l) := by unfold Hid; rw [HX.out, bne, bne, p1, p2]; simp
            have p1' : (a0 != p) = !(a0 == p) := rfl
            have p2' : (a1 != p) = !(a1 == p) := rfl
            rw [p1] at p1'
            rw [p2] at p2'
            simp only [Bool.not_true, Bool.not_false] at p1' p2'
            go_wp2_with fail
            go_roundw
            case rel => exact ⟨k + 1, by omega, by go_num, by rw [HX2.out]; exact HO.out, by (repeat' (first | (with_reducible exact Below.refl _ _) | (with_reducible assumption) | (with_reducible refine Below.alloc ?_ ?_ _) | (with_reducible refine Below.drew ?_) | (with_reducible refine belowDrewN ?_ _) | (with_reducible refine Below.setCell ?_ ?_ _) | (with_reducible refine Below.via (by with_reducible assumption) ?_ ?_) | (with_reducible refine Below.viaD (by with_reducible assumption) ?_ ?_) | (with_reducible exact Below.size (by with_reducible assumption)) | go_size | (with_reducible refine Nat.le_trans ?_ (Below.size (by with_reducible assumption))) | (with_reducible refine Nat.le_trans ?_ (sizeAlloc _ _)) | (with_reducible refine Nat.le_trans ?_ (sizeSet _ _ _)) | (with_reducible refine Nat.le_trans ?_ (sizeDrew _))))⟩
            case measure => first | (simp [intOf]; done) | (simp [intOf]; omega)
        · obtain rfl : k = c := by omega
          rw [HR.out] at hown
          obtain ⟨A', g, cap, rfl, hg, _, _, ho⟩ := own_of_row hown
          clear hown
          go_wp2_with fail
          go_ret2
          exact ⟨A', g, cap, rfl, hg, ho, by (repeat' (first | (with_reducible exact Below.refl _ _) | (with_reducible assumption) | (with_reducible refine Below.alloc ?_ ?_ _) | (with_reducible refine Below.drew ?_) | (with_reducible refine belowDrewN ?_ _) | (with_reducible refine Below.setCell ?_ ?_ _) | (with_reducible refine Below.via (by with_reducible assumption) ?_ ?_) | (with_reducible refine Below.viaD (by with_reducible assumption) ?_ ?_) | (with_reducible exact Below.size (by with_reducible assumption)) | go_size | (with_reducible refine Nat.le_trans ?_ (Below.size (by with_reducible assumption))) | (with_reducible refine Nat.le_trans ?_ (sizeAlloc _ _)) | (with_reducible refine Nat.le_trans ?_ (sizeSet _ _ _)) | (with_reducible refine Nat.le_trans ?_ (sizeDrew _))))⟩
set_option maxRecDepth 100000 in
set_option maxHeartbeats 2000000 in
theorem dp_walk (n : Int) (A : Option Addr) (c cp : Nat) (vs : List Value) (p : Int) (w : World) (hs : Sl w w.heap.size 4 A c vs) (hc : c ≤ 9223372036854775807) (ht : TypMatch vs c) : Calls Try.prog 5 #[.int .i64 n, .slice A c cp, .int .i64 p] w fun e w' => e = .returned (.bool true) ∧ Below w.heap.size w w' := by
  have HL := Lib.hid hs.len
  have HT := Lib.hid ht
  clear ht
  obtain ⟨ms, code, hr⟩ : ∃ ms code, drR n p vs c = (ms, code) := ⟨_, _, rfl⟩
  have hq : ms.length ≤ 150 := by
    unfold drR at hr
    cases hv : validMs n vs
    · rw [hv] at hr; obtain ⟨rfl, _⟩ := pairL hr; simp
    · obtain ⟨m, _, _, _, hc150, _⟩ := validMs_of HL.out hv
      rw [hv, if_pos rfl] at hr
      have := dropM_len vs p c
      split at hr
      · obtain ⟨rfl, _⟩ := pairL hr; omega
      · obtain ⟨rfl, _⟩ := pairL hr; simp
  have HR := Lib.hid hr
  clear hr
  by_cases hbig : (c : Int) ≤ 1048576
  case neg =>
    go_enter Try.func5, Try.ntmps5
    go_wp2_with (go_at_call 10; refine (szMatchS_gt A c cp 1048576 _ (by omega) (by omega) hc).mono ?_; rintro e w_ ⟨rfl, rfl⟩)
    go_ret
    exact ⟨rfl, by (repeat' (first | (with_reducible exact Below.refl _ _) | (with_reducible assumption) | (with_reducible refine Below.alloc ?_ ?_ _) | (with_reducible refine Below.drew ?_) | (with_reducible refine belowDrewN ?_ _) | (with_reducible refine Below.setCell ?_ ?_ _) | (with_reducible refine Below.via (by with_reducible assumption) ?_ ?_) | (with_reducible refine Below.viaD (by with_reducible assumption) ?_ ?_) | (with_reducible exact Below.size (by with_reducible assumption)) | go_size | (with_reducible refine Nat.le_trans ?_ (Below.size (by with_reducible assumption))) | (with_reducible refine Nat.le_trans ?_ (sizeAlloc _ _)) | (with_reducible refine Nat.le_trans ?_ (sizeSet _ _ _)) | (with_reducible refine Nat.le_trans ?_ (sizeDrew _))))⟩
  case pos =>
    have hc2 : c ≤ 1048576 := by omega
    have hcn : (code != code) = false := by simp
    have HTM : Hid (TypMatch (flatM ms) ms.length) := flatM_typ ms
    obtain ⟨q, hqe⟩ : ∃ q, ms.length = q := ⟨_, rfl⟩
    have HQ := Lib.hid hqe
    rw [hqe] at hq
    clear hqe
    go_enter Try.func5, Try.ntmps5
    go_wp2_with (go_at_call 10; refine (szMatchS_le A c cp 1048576 _ (by omega) (by omega)).mono ?_; rintro e w_ ⟨rfl, rfl⟩)
    refine (toMatchS_any A c cp vs _ hs HT.out hc2).mono ?_
    rintro e w1 ⟨rfl, k1, b1⟩
    have s1 := k1.slV HL.out
    clear k1
    go_wp2_with fail
    refine (sDropPlayer_any n p _ c c vs _ s1 HT.out hc ms code HR.out).mono ?_
    rintro e w2 ⟨A0, g0, q0, rfl, hg0, o0, b2⟩
    rw [HQ.out] at o0 ⊢
    rw [HQ.out] at HTM
    go_wp2_with fail
    have s2 := (hs.later b1).later b2
    refine (toMatchS_any A c cp vs _ s2 HT.out hc2).mono ?_
    rintro e w3 ⟨rfl, k3, b3⟩
    have o3 : OwnV w3 w2.heap.size 54 4 (some ⟨w2.heap.size, 0, none⟩) c vs := OwnV.of_blk k3 HL.out
    have hgl := k3.lt
    clear k3
    go_wp2_with fail
    refine (DropPlayer_any n p _ c c vs _ o3.sl HT.out hc ms code HR.out).mono ?_
    rintro e w4 ⟨A1, g1, q1, rfl, hg1, o1, b4⟩
    rw [HQ.out] at o1 ⊢
    have o4 := (o0.later b3).later b4
    go_wp2_with fail
    refine (eqMatchS_same _ _ q q1 q0 (flatM ms) _ o1.sl o4.sl HTM.out (by omega)).mono ?_
    rintro e w5 ⟨rfl, b5⟩
    go_wp2_with fail
    have s4 := ((s2.later b3).later b4).later b5
    refine (toMatchS_any A c cp vs _ s4 HT.out hc2).mono ?_
    rintro e w6 ⟨rfl, k6, b6⟩
    have s6 := k6.slV HL.out
    clear k6
    go_wp2_with fail
    refine (eqMatchS_same _ _ c c c vs _ ((((o3.later b4).later b5).later b6).sl) s6 HT.out hc).mono ?_
    rintro e w7 ⟨rfl, b7⟩
    go_wp2_with fail
    refine (markMatchS_any _ c c _ vs 1 _ ((((o3.later b4).later b5).later b6).later b7) HT.out (by omega) (by omega) (by omega)).mono ?_
    rintro e w8 ⟨rfl, _, hgr8⟩
    have bw7 : Below w.heap.size w w7 := by (repeat' (first | (with_reducible exact Below.refl _ _) | (with_reducible assumption) | (with_reducible refine Below.alloc ?_ ?_ _) | (with_reducible refine Below.drew ?_) | (with_reducible refine belowDrewN ?_ _) | (with_reducible refine Below.setCell ?_ ?_ _) | (with_reducible refine Below.via (by with_reducible assumption) ?_ ?_) | (with_reducible refine Below.viaD (by with_reducible assumption) ?_ ?_) | (with_reducible exact Below.size (by with_reducible assumption)) | go_size | (with_reducible refine Nat.le_trans ?_ (Below.size (by with_reducible assumption))) | (with_reducible refine Nat.le_trans ?_ (sizeAlloc _ _)) | (with_reducible refine Nat.le_trans ?_ (sizeSet _ _ _)) | (with_reducible refine Nat.le_trans ?_ (sizeDrew _))))
    have z2 : w.heap.size ≤ w2.heap.size := Nat.le_trans b1.size b2.size
    have z3 := b4.size
    have z4 := Nat.le_trans (Nat.le_trans b5.size b6.size) b7.size
    have bw8 : Below w.heap.size w w8 := grown_below bw7 hgr8 z2 bw7.size
    have p1 := ((((o1.later b5).later b6).later b7).apart hgr8 (fun hn => by omega))
    have p0 := ((((o4.later b5).later b6).later b7).apart hgr8 (fun hn => by have := o0.lt hn; omega))
    have z8 := hgr8.size
    clear o3 s4 s6 s2 s1 hgr8 bw7
    go_wp2_with fail
    refine (eqMatchS_same _ _ q q1 q0 (flatM ms) _ p1.sl p0.sl HTM.out (by omega)).mono ?_
    rintro e w9 ⟨rfl, b9⟩
    go_wp2_with fail
    refine (markMatchS_any _ q q1 _ (flatM ms) 1 _ (p1.later b9) HTM.out (by omega) (by omega) (by omega)).mono ?_
    rintro e w10 ⟨rfl, r10, hgr10⟩
    have bw9 : Below w.heap.size w w9 := by (repeat' (first | (with_reducible exact Below.refl _ _) | (with_reducible assumption) | (with_reducible refine Below.alloc ?_ ?_ _) | (with_reducible refine Below.drew ?_) | (with_reducible refine belowDrewN ?_ _) | (with_reducible refine Below.setCell ?_ ?_ _) | (with_reducible refine Below.via (by with_reducible assumption) ?_ ?_) | (with_reducible refine Below.viaD (by with_reducible assumption) ?_ ?_) | (with_reducible exact Below.size (by with_reducible assumption)) | go_size | (with_reducible refine Nat.le_trans ?_ (Below.size (by with_reducible assumption))) | (with_reducible refine Nat.le_trans ?_ (sizeAlloc _ _)) | (with_reducible refine Nat.le_trans ?_ (sizeSet _ _ _)) | (with_reducible refine Nat.le_trans ?_ (sizeDrew _))))
    have bw10 : Below w.heap.size w w10 := grown_below bw9 hgr10 (by omega) bw9.size
    have p10 := (p0.later b9).apart hgr10 (fun hn => by have := o0.lt hn; omega)
    clear hgr10 p0 p1
    go_wp2_with fail
    refine (heldMatchS_any _ q q1 1 _ r10.sl (by omega) (by omega) (by omega)).mono ?_
    rintro e w11 ⟨rfl, rfl⟩
    go_wp2_with fail
    refine (toMatchS_any A c cp vs _ (hs.later bw10) HT.out hc2).mono ?_
    rintro e w12 ⟨rfl, k12, b12⟩
    have s12 := k12.slV HL.out
    clear k12
    go_wp2_with fail
    refine (DropPlayer_any n p _ c c vs _ s12 HT.out hc ms code HR.out).mono ?_
    rintro e w13 ⟨A2, g2, q2, rfl, hg2, o2, b13⟩
    rw [HQ.out] at o2 ⊢
    go_wp2_with fail
    refine (eqMatchS_same _ _ q q2 q0 (flatM ms) _ o2.sl ((p10.later b12).later b13).sl HTM.out (by omega)).mono ?_
    rintro e w14 ⟨rfl, b14⟩
    go_wp2_with fail
    refine (heldMatchS_any _ q q1 1 _ (((r10.later b12).later b13).later b14).sl (by omega) (by omega) (by omega)).mono ?_
    rintro e w15 ⟨rfl, rfl⟩
    go_wp2_with fail
    go_ret
    exact ⟨rfl, by (repeat' (first | (with_reducible exact Below.refl _ _) | (with_reducible assumption) | (with_reducible refine Below.alloc ?_ ?_ _) | (with_reducible refine Below.drew ?_) | (with_reducible refine belowDrewN ?_ _) | (with_reducible refine Below.setCell ?_ ?_ _) | (with_reducible refine Below.via (by with_reducible assumption) ?_ ?_) | (with_reducible refine Below.viaD (by with_reducible assumption) ?_ ?_) | (with_reducible exact Below.size (by with_reducible assumption)) | go_size | (with_reducible refine Nat.le_trans ?_ (Below.size (by with_reducible assumption))) | (with_reducible refine Nat.le_trans ?_ (sizeAlloc _ _)) | (with_reducible refine Nat.le_trans ?_ (sizeSet _ _ _)) | (with_reducible refine Nat.le_trans ?_ (sizeDrew _))))⟩
end Go.Proofs.Ytencndbckjejaaa
