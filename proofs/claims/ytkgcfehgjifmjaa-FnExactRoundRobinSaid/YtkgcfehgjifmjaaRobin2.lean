/- RoundRobin: the law. No conditions. -/
import Derived.Test.YtkgcfehgjifmjaaRobin
import Derived.Test.YtkgcfehgjifmjaaMeetingS
namespace Go.Proofs.Ytkgcfehgjifmjaa
set_option linter.unusedSimpArgs false
set_option linter.unusedVariables false
open Go.RowKit

set_option maxRecDepth 100000 in
set_option maxHeartbeats 2000000 in
theorem rr_walk (n r : Int) (w : World) : Calls Try.prog 8 #[.int .i64 n, .int .i64 r] w fun e w' => e = .returned (.bool true) ∧ Below w.heap.size w w' := by
  obtain ⟨L, code, hr⟩ : ∃ L code, rrR n r = (L, code) := ⟨_, _, rfl⟩
  have hll : L.length ≤ 24 := by
    unfold rrR at hr
    cases hok : okR n r
    · rw [hok] at hr; obtain ⟨rfl, _⟩ := pairL hr; simp
    · obtain ⟨k, j, rfl, rfl, k1, k2, hj⟩ := okR_of hok
      rw [hok, if_pos rfl] at hr
      obtain ⟨rfl, _⟩ := pairL hr
      have := rrS_len k j k
      simp only [Int.toNat_natCast]
      omega
  have HR := Lib.hid hr
  have hbeq := eqL_self L
  have hcn : (code != code) = false := by simp
  clear hr
  go_enter Try.func8, Try.ntmps8
  go_wp2_with fail
  refine (sRoundRobin_any n r L code HR.out _).mono ?_
  rintro e w2 ⟨A0, g0, q, c0, rfl, hg0, o0, b2⟩
  have hq : q * 2 = L.length := o0.len.symm
  have HQ := Lib.hid hq
  have hq12 : q ≤ 12 := by omega
  clear hq
  go_wp2_with fail
  refine (RoundRobin_any n r L code HR.out _).mono ?_
  rintro e w4 ⟨A1, g1, q1, c1, rfl, hg1, o1, b4⟩
  have hq1 : q1 ≤ 12 := by have := o1.len; omega
  have o4 := o0.later b4
  go_wp2_with fail
  refine (eqMeetingS_any _ _ q1 q c1 c0 L L _ o1.sl o4.sl (by omega) (by omega)).mono ?_
  rintro e w5 ⟨rfl, b5⟩
  have p1 := o1.later b5
  have p0 := o4.later b5
  go_wp2_with fail
  refine (markMeetingS_any _ q1 c1 _ L 1 _ p1 (by omega) (by omega) (by omega)).mono ?_
  rintro e w10 ⟨rfl, r10, hgr10⟩
  have bw9 : Below w.heap.size w w5 := by (repeat' (first | (with_reducible exact Below.refl _ _) | (with_reducible assumption) | (with_reducible refine Below.alloc ?_ ?_ _) | (with_reducible refine Below.drew ?_) | (with_reducible refine belowDrewN ?_ _) | (with_reducible refine Below.setCell ?_ ?_ _) | (with_reducible refine Below.via (by with_reducible assumption) ?_ ?_) | (with_reducible exact Below.size (by with_reducible assumption)) | go_size | (with_reducible refine Nat.le_trans ?_ (Below.size (by with_reducible assumption))) | (with_reducible refine Nat.le_trans ?_ (sizeAlloc _ _)) | (with_reducible refine Nat.le_trans ?_ (sizeSet _ _ _)) | (with_reducible refine Nat.le_trans ?_ (sizeDrew _))))
  have zz := bw9.size
  have z2 := b2.size
  have bw10 : Below w.heap.size w w10 := grown_below bw9 hgr10 (by omega) bw9.size
  have p10 := p0.apart hgr10 (fun hn => by have := o0.lt hn; omega)
  clear hgr10 p0 p1 o0 o1 o4
  go_wp2_with fail
  refine (heldMeetingS_any _ q1 c1 1 _ r10.sl (by omega) (by omega) (by omega)).mono ?_
  rintro e w11 ⟨rfl, rfl⟩
  go_wp2_with fail
  refine (RoundRobin_any n r L code HR.out _).mono ?_
  rintro e w13 ⟨A2, g2, q2, c2, rfl, hg2, o2, b13⟩
  have hq2 : q2 ≤ 12 := by have := o2.len; omega
  go_wp2_with fail
  refine (eqMeetingS_any _ _ q2 q c2 c0 L L _ o2.sl (p10.later b13).sl (by omega) (by omega)).mono ?_
  rintro e w14 ⟨rfl, b14⟩
  go_wp2_with fail
  refine (heldMeetingS_any _ q1 c1 1 _ ((r10.later b13).later b14).sl (by omega) (by omega) (by omega)).mono ?_
  rintro e w15 ⟨rfl, rfl⟩
  go_wp2_with fail
  go_ret
  exact ⟨rfl, by (repeat' (first | (with_reducible exact Below.refl _ _) | (with_reducible assumption) | (with_reducible refine Below.alloc ?_ ?_ _) | (with_reducible refine Below.drew ?_) | (with_reducible refine belowDrewN ?_ _) | (with_reducible refine Below.setCell ?_ ?_ _) | (with_reducible refine Below.via (by with_reducible assumption) ?_ ?_) | (with_reducible exact Below.size (by with_reducible assumption)) | go_size | (with_reducible refine Nat.le_trans ?_ (Below.size (by with_reducible assumption))) | (with_reducible refine Nat.le_trans ?_ (sizeAlloc _ _)) | (with_reducible refine Nat.le_trans ?_ (sizeSet _ _ _)) | (with_reducible refine Nat.le_trans ?_ (sizeDrew _))))⟩
end Go.Proofs.Ytkgcfehgjifmjaa
