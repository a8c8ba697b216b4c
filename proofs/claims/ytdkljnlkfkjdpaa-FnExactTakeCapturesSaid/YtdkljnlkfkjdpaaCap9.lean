/- Captures: slams, by the reference. Conditions: lengths below 2^20. -/
import Derived.Test.YtdkljnlkfkjdpaaCap8
namespace Go.Proofs.Ytdkljnlkfkjdpaa
set_option linter.unusedSimpArgs false
set_option linter.unusedVariables false
open Go.RowKit

set_option maxRecDepth 100000 in
set_option maxHeartbeats 2000000 in
theorem l06Slam_any (r : Ru) (P p b of b2 o2 : Nat) (A1 A2 : Option Addr) (n1 c1 n2 c2 : Nat) (d : SownD) (l : List Int) (q : Bool) (w : World) (hr : RuAt w b of r) (hs : SownAt w b2 o2 A1 n1 c1 A2 n2 c2 d) (hP : r.p = (P : Int)) (h2 : 2 ≤ P) (h8 : P ≤ 8) (hn : n1 = 2 * P) (hp : p < 2) (hk : d.last < 2 * (P : Int)) (ho : okL d.pits = true) (hl : takenL P p r.ca d.last d.pits = l) (hq : slamB P p d.pits l = q) :
    Calls Try.prog 30 #[.pointer (some ⟨b, of, none⟩), .pointer (some ⟨b2, o2, none⟩), .int .i64 p] w fun e w' => e = .returned (.bool q) ∧ Below w.heap.size w w' := by
  have hzl := hs.s1.ints
  rw [hn] at hzl
  have HI : Hid (inPits P l) := by unfold Hid; rw [← hl]; exact takenL_in h2 hk
  have HB : Hid (∀ i, i ≤ l.length → 0 ≤ goneV P p d.pits l i ∧ goneV P p d.pits l i ≤ 96 * (i : Int)) := goneV_bd ho hzl HI.out
  have hll := HI.out.1
  have HT := Lib.hid (raw_any r P b of b2 o2 p A1 A2 n1 c1 n2 c2 d l w hr hs hP h2 h8 hn hk ho hl)
  obtain ⟨v, hv⟩ : ∃ v, sideV d.pits P (1 - p) = v := ⟨_, rfl⟩
  have HV : Hid (∀ w', Below w.heap.size w w' → Calls Try.prog 47 #[.pointer (some ⟨b, of, none⟩), .slice A1 n1 c1, .int .i64 (1 - (p : Int))] w' fun e w'' => e = .returned (.int .i64 v) ∧ w' = w'') := by
    intro w' hb
    have := l04Side_any r P (1 - p) b of A1 n1 c1 d.pits w' (hr.later hb) (hs.s1.later hb) hP h2 h8 hn (by omega) ho
    rwa [show ((1 - p : Nat) : Int) = 1 - (p : Int) from by omega, hv] at this
  have HQ : Hid ((decide (0 < goneV P p d.pits l l.length) && (v == goneV P p d.pits l l.length)) = q) := by unfold Hid; rw [← hq, ← hv]; rfl
  have HP := Lib.hid hP
  have HO := Lib.hid ho
  have HR := Lib.hid hr
  have hlb := cell_lt hr.c0
  obtain ⟨p0, p1, p2, p3, s1, s2⟩ := hs
  have hlb2 := cell_lt p0
  have S1 := Lib.hid s1
  have HP0 := Lib.hid p0
  subst hn
  clear hP hl hq hv ho hk hr s1 s2 p0 p1 p2 p3
  go_enter Try.func30, Try.ntmps30
  go_wp2_with fail
  with_reducible refine Calls.mono HT.out ?_
  rintro e w2 ⟨A', g, cap, rfl, hg, hnc, hcm, hown, hb2⟩
  have HC2 := Lib.hid hb2
  have HOW := Lib.hid hown.sl
  clear hb2 hown
  go_wp2_with fail
  go_loopw [8, 9] (fun u i wr => ∃ k : Nat, k ≤ l.length ∧ i = .int .i64 k ∧ u = .int .i64 (goneV P p d.pits l k) ∧ Below w2.heap.size w2 wr) (fun _ i _ => l.length - (intOf i).toNat)
  case atStart => exact ⟨0, Nat.zero_le _, by simp, rfl, by (repeat' (first | (with_reducible exact Below.refl _ _) | (with_reducible assumption) | (with_reducible refine Below.alloc ?_ ?_ _) | (with_reducible refine Below.drew ?_) | (with_reducible refine belowDrewN ?_ _) | (with_reducible refine Below.setCell ?_ ?_ _) | (with_reducible refine Below.via (by with_reducible assumption) ?_ ?_) | (with_reducible refine Below.viaD (by with_reducible assumption) ?_ ?_) | (with_reducible exact Below.size (by with_reducible assumption)) | go_size | (with_reducible refine Nat.le_trans ?_ (Below.size (by with_reducible assumption))) | (with_reducible refine Nat.le_trans ?_ (sizeAlloc _ _)) | (with_reducible refine Nat.le_trans ?_ (sizeSet _ _ _)) | (with_reducible refine Nat.le_trans ?_ (sizeDrew _))))⟩
  case round =>
    obtain ⟨k, hk, rfl, rfl, hbl⟩ := hrel
    have HBL := Lib.hid hbl
    have C3 : Below w.heap.size w wr := Below.via hbl HC2.out HC2.out.size
    have e0 := (C3.cell (p := ⟨b2, o2, none⟩) hlb2).trans HP0.out
    have HC3 := Lib.hid C3
    have HRW := Lib.hid (HR.out.later C3)
    obtain ⟨hb1, hb2⟩ := HB.out k hk
    clear hbl C3
    by_cases hlt : k < l.length
    · obtain ⟨bl, ol, x, rfl, hbl, HX, hxc⟩ := (HOW.out.later HBL.out).int hlt
      obtain ⟨m, hm, hm2⟩ := HI.out.2 k hlt
      obtain rfl : (m : Int) = x := hm.symm.trans HX.out
      obtain ⟨b3, off, z, e3, hb, HZ, hc⟩ := (S1.out.later HC3.out).int hm2
      rw [e3] at e0
      obtain ⟨z0, z1⟩ := okL_bd HO.out (show m < d.pits.length by omega)
      rw [HZ.out] at z0 z1
      obtain ⟨o', ho'⟩ : ∃ o', ownI P m = o' := ⟨_, rfl⟩
      have HO' := Lib.hid ho'
      have HG : Hid (goneV P p d.pits l (k + 1) = goneV P p d.pits l k + (if o' != (p : Int) then z else 0)) := by unfold Hid; rw [goneV, hm, Int.toNat_natCast, ho', HZ.out]
      clear ho' hm e3
      revert hb1 hb2 HG
      generalize goneV P p d.pits l k = u
      intro hb1 hb2 HG
      have hwu : IntKind.i64.wrap (u + z) = u + z := IntWalk.i64_in _ (by omega)
      cases q1 : (o' == (p : Int))
      case true =>
        have HG2 : Hid (goneV P p d.pits l (k + 1) = u) := by unfold Hid; rw [HG.out, bne, q1]; simp
        have q1' : (o' != (p : Int)) = false := by rw [bne, q1]; rfl
        go_wp2_with (go_at_call 46; (with_reducible refine Calls.mono (l02Owner_lit r P m b of o' _ ?_ HP.out h2 h8 hm2 HO'.out) ?_); (exact HRW.out.later (by (repeat' (first | (with_reducible exact Below.refl _ _) | (with_reducible assumption) | (with_reducible refine Below.alloc ?_ ?_ _) | (with_reducible refine Below.drew ?_) | (with_reducible refine belowDrewN ?_ _) | (with_reducible refine Below.setCell ?_ ?_ _) | (with_reducible refine Below.via (by with_reducible assumption) ?_ ?_) | (with_reducible refine Below.viaD (by with_reducible assumption) ?_ ?_) | (with_reducible exact Below.size (by with_reducible assumption)) | go_size | (with_reducible refine Nat.le_trans ?_ (Below.size (by with_reducible assumption))) | (with_reducible refine Nat.le_trans ?_ (sizeAlloc _ _)) | (with_reducible refine Nat.le_trans ?_ (sizeSet _ _ _)) | (with_reducible refine Nat.le_trans ?_ (sizeDrew _)))))); rintro e w_ ⟨rfl, rfl⟩)
        go_roundw
        case rel => exact ⟨k + 1, by omega, by go_num, by rw [HG2.out], by have := HBL.out; (repeat' (first | (with_reducible exact Below.refl _ _) | (with_reducible assumption) | (with_reducible refine Below.alloc ?_ ?_ _) | (with_reducible refine Below.drew ?_) | (with_reducible refine belowDrewN ?_ _) | (with_reducible refine Below.setCell ?_ ?_ _) | (with_reducible refine Below.via (by with_reducible assumption) ?_ ?_) | (with_reducible refine Below.viaD (by with_reducible assumption) ?_ ?_) | (with_reducible exact Below.size (by with_reducible assumption)) | go_size | (with_reducible refine Nat.le_trans ?_ (Below.size (by with_reducible assumption))) | (with_reducible refine Nat.le_trans ?_ (sizeAlloc _ _)) | (with_reducible refine Nat.le_trans ?_ (sizeSet _ _ _)) | (with_reducible refine Nat.le_trans ?_ (sizeDrew _))))⟩
        case measure => first | (simp [intOf]; done) | (simp [intOf]; omega)
      case false =>
        have HG2 : Hid (goneV P p d.pits l (k + 1) = u + z) := by unfold Hid; rw [HG.out, bne, q1]; simp
        have q1' : (o' != (p : Int)) = true := by rw [bne, q1]; rfl
        go_wp2_with (go_at_call 46; (with_reducible refine Calls.mono (l02Owner_lit r P m b of o' _ ?_ HP.out h2 h8 hm2 HO'.out) ?_); (exact HRW.out.later (by (repeat' (first | (with_reducible exact Below.refl _ _) | (with_reducible assumption) | (with_reducible refine Below.alloc ?_ ?_ _) | (with_reducible refine Below.drew ?_) | (with_reducible refine belowDrewN ?_ _) | (with_reducible refine Below.setCell ?_ ?_ _) | (with_reducible refine Below.via (by with_reducible assumption) ?_ ?_) | (with_reducible refine Below.viaD (by with_reducible assumption) ?_ ?_) | (with_reducible exact Below.size (by with_reducible assumption)) | go_size | (with_reducible refine Nat.le_trans ?_ (Below.size (by with_reducible assumption))) | (with_reducible refine Nat.le_trans ?_ (sizeAlloc _ _)) | (with_reducible refine Nat.le_trans ?_ (sizeSet _ _ _)) | (with_reducible refine Nat.le_trans ?_ (sizeDrew _)))))); rintro e w_ ⟨rfl, rfl⟩)
        first | (refine wp_region_quiet_lit (by kernel_rfl) (by kernel_rfl) ?_; refine WQ.of ?_; (repeat (refine WQ.step (fun K hK => ?_); go_simp; first | (refine hK _ ?_; clear hK K) | (apply Exists.intro; refine ⟨fun _ => ?_, hK _ ?_⟩; (fail); clear hK K))); refine WQ.nil ?_; intro _ hw'; obtain ⟨nq, hw''⟩ := hw'; subst hw'') | go_quiet (fail)
        go_wp2_with fail
        go_roundw
        case rel => exact ⟨k + 1, by omega, by go_num, by rw [HG2.out], by have := HBL.out; (repeat' (first | (with_reducible exact Below.refl _ _) | (with_reducible assumption) | (with_reducible refine Below.alloc ?_ ?_ _) | (with_reducible refine Below.drew ?_) | (with_reducible refine belowDrewN ?_ _) | (with_reducible refine Below.setCell ?_ ?_ _) | (with_reducible refine Below.via (by with_reducible assumption) ?_ ?_) | (with_reducible refine Below.viaD (by with_reducible assumption) ?_ ?_) | (with_reducible exact Below.size (by with_reducible assumption)) | go_size | (with_reducible refine Nat.le_trans ?_ (Below.size (by with_reducible assumption))) | (with_reducible refine Nat.le_trans ?_ (sizeAlloc _ _)) | (with_reducible refine Nat.le_trans ?_ (sizeSet _ _ _)) | (with_reducible refine Nat.le_trans ?_ (sizeDrew _))))⟩
        case measure => first | (simp [intOf]; done) | (simp [intOf]; omega)
    · obtain rfl : k = l.length := by omega
      revert hb1 hb2 HQ
      generalize goneV P p d.pits l l.length = u
      intro HQ hb1 hb2
      have HQ' : Hid ((decide (0 < u) && (u == v)) = q) := by unfold Hid; rw [← HQ.out, Bool.beq_comm]
      go_wp2_with (go_at_call 47; (with_reducible refine Calls.mono (HV.out _ HC3.out) ?_); rintro e w_ ⟨rfl, rfl⟩)
      all_goals
        have h9 := HQ'.out
        go_ret
        subst h9
        exact ⟨by first | (simp [*]; done) | (simp [*]; omega), HC3.out⟩
end Go.Proofs.Ytdkljnlkfkjdpaa
