/- MergeCounts: the law. No conditions. -/
import Derived.Test.YtdndhbgompmmeaaMerge2
namespace Go.Proofs.Ytdndhbgompmmeaa
set_option linter.unusedSimpArgs false
set_option linter.unusedVariables false
open Go.RowKit

theorem sumLen_bd (pss : List (List Int)) {n j : Nat} (hn : n + sumLen pss n ≤ 1048576) (hj : j < n) : (pss.getD j []).length ≤ 9223372036854775807 := by
  have := sumLen_each pss hj
  omega
set_option maxHeartbeats 4000000 in
theorem mg_walk (A : Option Addr) (n c : Nat) (pss : List (List Int)) (w : World) (hs : Sl2 w w.heap.size A n pss) (hn : n ≤ 9223372036854775807) : Calls Try.prog 4 #[.slice A n c] w fun e w' => e = .returned (.bool true) ∧ Below w.heap.size w w' := by
  obtain ⟨z, hz⟩ : ∃ z, SzR pss n 1048576 = z := ⟨_, rfl⟩
  have HZ := Lib.hid hz
  by_cases hbig : n + sumLen pss n ≤ 1048576
  case neg =>
    have hz1 : z = -1 := by rw [← hz, SzR, if_neg (by omega)]
    subst hz1
    clear hz
    go_enter Try.func4, Try.ntmps4
    go_wp2_with (go_at_call 14; refine (szInt64SS_any A n c pss 1048576 _ hs hn (by omega) (by omega)).mono ?_; rw [HZ.out]; rintro e w_ ⟨rfl, rfl⟩)
    go_ret
    exact ⟨rfl, by (repeat' (first | (with_reducible exact Below.refl _ _) | (with_reducible assumption) | (with_reducible refine Below.alloc ?_ ?_ _) | (with_reducible refine Below.drew ?_) | (with_reducible refine belowDrewN ?_ _) | (with_reducible refine Below.setCell ?_ ?_ _) | (with_reducible refine Below.via (by with_reducible assumption) ?_ ?_) | (with_reducible exact Below.size (by with_reducible assumption)) | go_size | (with_reducible refine Nat.le_trans ?_ (Below.size (by with_reducible assumption))) | (with_reducible refine Nat.le_trans ?_ (sizeAlloc _ _)) | (with_reducible refine Nat.le_trans ?_ (sizeSet _ _ _)) | (with_reducible refine Nat.le_trans ?_ (sizeDrew _))))⟩
  case pos =>
    have hz0 : 0 ≤ z := by rw [← hz, SzR, if_pos (by omega)]; omega
    clear hz
    obtain ⟨L, code, hr⟩ : ∃ L code, mgR pss n = (L, code) := ⟨_, _, rfl⟩
    have HR := Lib.hid hr
    clear hr
    have hlen := hs.len
    have HL := Lib.hid hlen
    clear hlen
    have hq2 : n ≤ 1048576 := by omega
    have hsn : sumLen pss n ≤ 1048576 := by omega
    go_enter Try.func4, Try.ntmps4
    go_wp2_with (go_at_call 14; refine (szInt64SS_any A n c pss 1048576 _ hs hn (by omega) (by omega)).mono ?_; rw [HZ.out]; rintro e w_ ⟨rfl, rfl⟩)
    refine (toInt64SS_any A n c pss _ hs hbig).mono ?_
    rintro e w1 ⟨gs1, rfl, k1, d1, b1⟩
    have s1 := laid_sl2 k1 d1 HL.out (fun j hj => sumLen_bd pss hbig hj)
    clear k1 d1
    go_wp2_with fail
    refine (sMergeCounts_any _ n n pss _ s1 hbig L code HR.out).mono ?_
    rintro e w2 ⟨A0, g0, q0, p0, rfl, hg0, o0, hq0, b2⟩
    have s2 := (hs.later b1).later b2
    clear s1
    go_wp2_with fail
    refine (toInt64SS_any A n c pss _ s2 hbig).mono ?_
    rintro e w3 ⟨gs3, rfl, k3, d3, b3⟩
    have s3 := laid_sl2 k3 d3 HL.out (fun j hj => sumLen_bd pss hbig hj)
    have m3 := d3.marked
    clear d3
    go_wp2_with fail
    refine (MergeCounts_any _ n n pss _ s3 hbig L code HR.out).mono ?_
    rintro e w4 ⟨A1, g1, q1, p1, rfl, hg1, o1, hq1, b4⟩
    have o4 := (o0.later b3).later b4
    have hbeq : (L == L) = true := beq_self_eq_true L
    have hce : (code == code) = true := beq_self_eq_true code
    have hcn : (code != code) = false := by rw [bne, hce]; rfl
    go_wp2_with fail
    refine (eqInt64S_any _ _ q1 q0 p1 p0 L L _ o1.sl o4.sl (by omega) (by omega)).mono ?_
    rintro e w5 ⟨rfl, b5⟩
    have s5 := ((s2.later b3).later b4).later b5
    clear s2
    go_wp2_with fail
    refine (toInt64SS_any A n c pss _ s5 hbig).mono ?_
    rintro e w6 ⟨gs6, rfl, k6, d6, b6⟩
    have s6 := laid_sl2 k6 d6 HL.out (fun j hj => sumLen_bd pss hbig hj)
    clear k6 d6 s5
    have s36 := ((s3.later b4).later b5).later b6
    go_wp2_with fail
    refine (eqInt64SS_same _ _ n n n pss _ s36 s6 (by omega)).mono ?_
    rintro e w7 ⟨rfl, hm7⟩
    have b7 : Below w6.heap.size w6 w7 := by obtain ⟨m7, rfl⟩ := hm7; exact belowDrewN (Below.refl _ _) _
    clear hm7 s6 s36 s3
    have k7 := (((k3.later b4).later b5).later b6).later b7
    have m7 := (((m3.later b4).later b5).later b6).later b7
    clear k3 m3
    go_wp2_with fail
    -- the copy is marked: the results stay
    refine (markInt64SS_any n n _ _ pss gs3 1 _ k7 m7 hbig (by omega) (by omega)).mono ?_
    rintro e w8 ⟨rfl, hgr8⟩
    have bw7 : Below w.heap.size w w7 := by (repeat' (first | (with_reducible exact Below.refl _ _) | (with_reducible assumption) | (with_reducible refine Below.alloc ?_ ?_ _) | (with_reducible refine Below.drew ?_) | (with_reducible refine belowDrewN ?_ _) | (with_reducible refine Below.setCell ?_ ?_ _) | (with_reducible refine Below.via (by with_reducible assumption) ?_ ?_) | (with_reducible exact Below.size (by with_reducible assumption)) | go_size | (with_reducible refine Nat.le_trans ?_ (Below.size (by with_reducible assumption))) | (with_reducible refine Nat.le_trans ?_ (sizeAlloc _ _)) | (with_reducible refine Nat.le_trans ?_ (sizeSet _ _ _)) | (with_reducible refine Nat.le_trans ?_ (sizeDrew _))))
    have z2 : w.heap.size ≤ w2.heap.size := Nat.le_trans b1.size b2.size
    have z4 := Nat.le_trans (Nat.le_trans b5.size b6.size) b7.size
    have z3 := b4.size
    have z23 := b3.size
    have bw8 : Below w.heap.size w w8 := hgr8.below bw7 z2 bw7.size
    have hp0 : 0 < q0 → g0 < w2.heap.size := fun h => o0.lt h
    have p1' := ((((o1.later b5).later b6).later b7).within hgr8 (Or.inr hg1))
    have p0' : Own w8 g0 2 1 A0 q0 L := by
      rcases Nat.eq_zero_or_pos q0 with h0 | h0
      · subst h0; exact ⟨o0.len, fun h => absurd h (by omega)⟩
      · exact (((o4.later b5).later b6).later b7).within hgr8 (Or.inl (by have := hp0 h0; omega))
    have z8 := hgr8.size
    clear k7 m7 hgr8 bw7 o4 o1
    go_wp2_with fail
    refine (eqInt64S_any _ _ q1 q0 p1 p0 L L _ p1'.sl p0'.sl (by omega) (by omega)).mono ?_
    rintro e w9 ⟨rfl, b9⟩
    go_wp2_with fail
    refine (markInt64S_any _ q1 p1 _ L 1 _ (p1'.later b9) (by omega) (by omega) (by omega)).mono ?_
    rintro e w10 ⟨rfl, r10, hgr10⟩
    have bw9 : Below w.heap.size w w9 := by (repeat' (first | (with_reducible exact Below.refl _ _) | (with_reducible assumption) | (with_reducible refine Below.alloc ?_ ?_ _) | (with_reducible refine Below.drew ?_) | (with_reducible refine belowDrewN ?_ _) | (with_reducible refine Below.setCell ?_ ?_ _) | (with_reducible refine Below.via (by with_reducible assumption) ?_ ?_) | (with_reducible exact Below.size (by with_reducible assumption)) | go_size | (with_reducible refine Nat.le_trans ?_ (Below.size (by with_reducible assumption))) | (with_reducible refine Nat.le_trans ?_ (sizeAlloc _ _)) | (with_reducible refine Nat.le_trans ?_ (sizeSet _ _ _)) | (with_reducible refine Nat.le_trans ?_ (sizeDrew _))))
    have bw10 : Below w.heap.size w w10 := grown_below bw9 hgr10 (by omega) bw9.size
    have p10 := (p0'.later b9).apart hgr10 (fun hn => by have := hp0 hn; omega)
    clear hgr10 p0' p1'
    go_wp2_with fail
    refine (heldInt64S_any _ q1 p1 1 _ r10.sl (by omega) (by omega) (by omega)).mono ?_
    rintro e w11 ⟨rfl, rfl⟩
    go_wp2_with fail
    refine (toInt64SS_any A n c pss _ (hs.later bw10) hbig).mono ?_
    rintro e w12 ⟨gs12, rfl, k12, d12, b12⟩
    have s12 := laid_sl2 k12 d12 HL.out (fun j hj => sumLen_bd pss hbig hj)
    clear k12 d12
    go_wp2_with fail
    refine (MergeCounts_any _ n n pss _ s12 hbig L code HR.out).mono ?_
    rintro e w13 ⟨A2, g2, q2, p2, rfl, hg2, o2, hq2', b13⟩
    go_wp2_with fail
    refine (eqInt64S_any _ _ q2 q0 p2 p0 L L _ o2.sl ((p10.later b12).later b13).sl (by omega) (by omega)).mono ?_
    rintro e w14 ⟨rfl, b14⟩
    go_wp2_with fail
    refine (heldInt64S_any _ q1 p1 1 _ (((r10.later b12).later b13).later b14).sl (by omega) (by omega) (by omega)).mono ?_
    rintro e w15 ⟨rfl, rfl⟩
    go_wp2_with fail
    go_ret
    exact ⟨rfl, by (repeat' (first | (with_reducible exact Below.refl _ _) | (with_reducible assumption) | (with_reducible refine Below.alloc ?_ ?_ _) | (with_reducible refine Below.drew ?_) | (with_reducible refine belowDrewN ?_ _) | (with_reducible refine Below.setCell ?_ ?_ _) | (with_reducible refine Below.via (by with_reducible assumption) ?_ ?_) | (with_reducible exact Below.size (by with_reducible assumption)) | go_size | (with_reducible refine Nat.le_trans ?_ (Below.size (by with_reducible assumption))) | (with_reducible refine Nat.le_trans ?_ (sizeAlloc _ _)) | (with_reducible refine Nat.le_trans ?_ (sizeSet _ _ _)) | (with_reducible refine Nat.le_trans ?_ (sizeDrew _))))⟩
end Go.Proofs.Ytdndhbgompmmeaa
